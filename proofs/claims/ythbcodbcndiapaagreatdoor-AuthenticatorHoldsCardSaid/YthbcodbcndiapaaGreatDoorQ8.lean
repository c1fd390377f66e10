/- SHA-256: contracts: the program's block. -/
import Derived.Test.YthbcodbcndiapaaGreatDoorQ7
import Derived.Lib.Bytealg
import Derived.Lib.Strings
import Derived.Lib.IndexBytes
set_option linter.all false
namespace Go.Proofs.YthbcodbcndiapaaGreatDoor
open Go Go.Sx Go.Proofs
set_option maxRecDepth 100000
set_option maxHeartbeats 40000000
set_option linter.defProp false
abbrev HH:Ty:=.prod (.arr 8 (.int .u32)) (.prod (.arr 64 .u8) (.int .i64))
abbrev MH:Ty:=.prod (.prod (.arr 64 .u8) (.arr 64 .u8)) (.prod HH .bool)
def orW{a b:Nat}{k:Nat}(e:b<2^ k)(h:2^ k*a+b<4294967296):orK .u32 ((2^ k*a:Nat):Int) (b:Int)=((2^ k*a+b:Nat):Int):=by
 unfold orK;have d:(BitVec.ofInt IntKind.u32.bits ((2^ k*a:Nat):Int) |||BitVec.ofInt IntKind.u32.bits (b:Int)).toNat=2^ k*a+b:=by rw [Cj,AV,AV,A1,A1];rw [show 2^ IntKind.u32.bits=4294967296 from rfl,AL (a:=2^ k*a) (by omega),AL (a:=b) (by omega),<-CG e]
 rw [d];exact w32 (by constructor<;>omega)
def u32n(n:Nat)(h:n<4294967296):IntKind.u32.wrap (n:Int)=(n:Int):=w32 (by constructor<;>omega)
theorem or4(c:Nat->UInt8):orK .u32 (orK .u32 (orK .u32 (IntKind.u32.wrap (IntKind.u32.wrap ((c 0).toNat:Int)*2^ min 24 32)) (IntKind.u32.wrap (IntKind.u32.wrap ((c 1).toNat:Int)*2^ min 16 32))) (IntKind.u32.wrap (IntKind.u32.wrap ((c 2).toNat:Int)*2^ min 8 32))) (IntKind.u32.wrap ((c 3).toNat:Int))=((256* (256* (256* (c 0).toNat+ (c 1).toNat)+ (c 2).toNat)+ (c 3).toNat:Nat):Int):=by
 have h0:=(c 0).toNat_lt;have h1:=(c 1).toNat_lt;have h2:=(c 2).toNat_lt;have h3:=(c 3).toNat_lt;generalize (c 0).toNat=d at*;generalize (c 1).toNat=e at*;generalize (c 2).toNat=j at*;generalize (c 3).toNat=o at*;have p:IntKind.u32.wrap (IntKind.u32.wrap (d:Int)*2^ min 24 32)=((2^ 24*d:Nat):Int):=by rw [u32n d (by omega),show (2:Int) ^ min 24 32=16777216 from rfl,w32 (by constructor<;>omega)];omega
 have r:IntKind.u32.wrap (IntKind.u32.wrap (e:Int)*2^ min 16 32)=((2^ 16*e:Nat):Int):=by rw [u32n e (by omega),show (2:Int) ^ min 16 32=65536 from rfl,w32 (by constructor<;>omega)];omega
 have u:IntKind.u32.wrap (IntKind.u32.wrap (j:Int)*2^ min 8 32)=((2^ 8*j:Nat):Int):=by rw [u32n j (by omega),show (2:Int) ^ min 8 32=256 from rfl,w32 (by constructor<;>omega)];omega
 rw [p,r,u,u32n o (by omega),orW (a:=d) (b:=2^ 16*e) (k:=24) (by omega) (by omega),
  show 2^ 24*d+2^ 16*e=2^ 16* (2^ 8*d+e) by omega,orW (a:=2^ 8*d+e) (b:=2^ 8*j) (k:=16) (by omega) (by omega),
  show 2^ 16* (2^ 8*d+e)+2^ 8*j=2^ 8* (2^ 8* (2^ 8*d+e)+j) by omega,orW (a:=2^ 8* (2^ 8*d+e)+j) (b:=o) (k:=8) (by omega) (by omega)]
theorem wrapU(x:Int):IntKind.u32.wrap x=x%4294967296:=rfl
variable {x:Int}
def z2r(h:inW x):xorW 0 x=x:=by unfold xorW;rw [Int.toNat_zero,Nat.zero_xor];omega
def turn2(h:inW x)(a b:Nat)(d:1<=a)(e:a<=31):turnS x [a,b] 2=xorW (rotW a x) (rotW b x):=by show xorW (xorW 0 (rotW a x)) (rotW b x)=_;rw [z2r (q3R d e h)]
def turn3(h:inW x)(a b c:Nat)(d:1<=a)(e:a<=31):turnS x [a,b,c] 3=xorW (xorW (rotW a x) (rotW b x)) (rotW c x):=by show xorW (xorW (xorW 0 (rotW a x)) (rotW b x)) (rotW c x)=_;rw [z2r (q3R d e h)]
variable {y:Int}
theorem sg1U(h:inW y):xorK .u32 (turnS y [17,19] 2) (y.fdiv (2^ min 10 32))=sg1 y:=by have e:y.fdiv (2^ min 10 32)=y / 1024:=fdivW y 1024 (by decide);have a:=q3R (n:=17) (by decide) (by decide) h;have d:=q3R (n:=19) (by decide) (by decide) h;rw [e,turn2 h 17 19 (by decide) (by decide),xor32 (q9d a d) (by unfold inW at*;omega)];rfl
theorem sg0U(h:inW y):xorK .u32 (turnS y [7,18] 2) (y.fdiv (2^ min 3 32))=sg0 y:=by have e:y.fdiv (2^ min 3 32)=y / 8:=fdivW y 8 (by decide);have a:=q3R (n:=7) (by decide) (by decide) h;have d:=q3R (n:=18) (by decide) (by decide) h;rw [e,turn2 h 7 18 (by decide) (by decide),xor32 (q9d a d) (by unfold inW at*;omega)];rfl
def schU{u v:Int}(a:inW x)(d:inW y):IntKind.u32.wrap (IntKind.u32.wrap (IntKind.u32.wrap (xorK .u32 (turnS y [17,19] 2) (y.fdiv (2^ min 10 32))+u)+xorK .u32 (turnS x [7,18] 2) (x.fdiv (2^ min 3 32)))+v)=(sg1 y+u+sg0 x+v)%W32:=by rw [sg0U a,sg1U d,wrapU,wrapU,wrapU];unfold W32;omega
def bs1U(h:inW x):turnS x [6,11,25] 3=bs1 x:=turn3 h _ _ _ (by decide) (by decide)
def bs0U(h:inW x):turnS x [2,13,22] 3=bs0 x:=turn3 h _ _ _ (by decide) (by decide)
def notU(h:inW x):IntKind.u32.wrap ↑(BitVec.ofInt 32 (if IntKind.u32.signed=true then -1 else IntKind.u32.max) ^^^ BitVec.ofInt 32 x).toNat=4294967295-x:=by
 have e:BitVec.ofInt 32 (if IntKind.u32.signed=true then -1 else IntKind.u32.max)=BitVec.allOnes 32:=by decide
 obtain ⟨n,rfl⟩:∃n:Nat,x=n:=⟨x.toNat,by omega⟩
 rw [e,BitVec.allOnes_xor,BitVec.toNat_not,AV,A1,AL (by omega),wrapU];omega
theorem j2M(x y z:Int)(a:inW x)(d:inW y)(j:inW z):PC Tryz.prog 300 [.raw (.int .u32 x),.raw (.int .u32 y),.raw (.int .u32 z)] (.raw (.int .u32 (chW x y z))):=by
 have e:inW (4294967295-x):=by omega
 have o:=and32 a d;have r:=and32 e j;have p:=xor32 (q4w a d) (q4w e j);refine q0q rfl rfl ?_;refine rQ fi300 ?_;refine (congrArg (λu=>Value.int IntKind.u32 (xorK IntKind.u32 (andK IntKind.u32 x y) (andK IntKind.u32 u z))) (notU a)).trans ?_;show Value.int IntKind.u32 (xorK IntKind.u32 (andK IntKind.u32 x y) (andK IntKind.u32 (4294967295-x) z))=_;rw [o,r,p];rfl
theorem z7S(a b c:Int)(d:inW a)(e:inW b)(j:inW c):PC Tryz.prog 301 [.raw (.int .u32 a),.raw (.int .u32 b),.raw (.int .u32 c)] (.raw (.int .u32 (majW a b c))):=by have p:=and32 d e;have w:=and32 d j;have r:=and32 e j;have u:=xor32 (q4w d e) (q4w d j);have o:=xor32 (q9d (q4w d e) (q4w d j)) (q4w e j);refine q0q rfl rfl ?_;refine rQ fi301 ?_;rw [p,w,u,r,o];rfl
theorem j9P(t:Nat):dat_sha_constants.getD t 0=kS t:=rfl
variable {v:List Int}
def t1U{k w:Int}(a:inWs v):IntKind.u32.wrap (IntKind.u32.wrap (IntKind.u32.wrap (IntKind.u32.wrap (v.getD 7 0+turnS (v.getD 4 0) [6,11,25] 3)+chW (v.getD 4 0) (v.getD 5 0) (v.getD 6 0))+k)+w)=t1S k w v%W32:=by rw [bs1U (q1b a 4 (by decide))];simp only [wrapU];unfold t1S W32;omega
theorem t2U(a:inWs v):IntKind.u32.wrap (turnS (v.getD 0 0) [2,13,22] 3+majW (v.getD 0 0) (v.getD 1 0) (v.getD 2 0))=t2S v%W32:=by rw [bs0U (q1b a 0 (by decide))];rfl
def aU(x y:Int):IntKind.u32.wrap (x%W32+y%W32)=(x+y)%W32:=by rw [wrapU];unfold W32;omega
def eU(x y:Int):IntKind.u32.wrap (x+y%W32)=(x+y)%W32:=by rw [wrapU];unfold W32;omega
theorem list8{l:List Int}(h:l.length=8):[l.getD 0 0,l.getD 1 0,l.getD 2 0,l.getD 3 0,l.getD 4 0,l.getD 5 0,l.getD 6 0,l.getD 7 0]=l:=by
 match l,h with
 | [a,b,c,d,e,f,g,i],_=>rfl
variable {b:List UInt8}
def ldW{t:Nat}(d:t<16)(c:Nat->UInt8)(a:∀j,j<4->c j=b.getD (4*t+j) 0):orK .u32 (orK .u32 (orK .u32 (IntKind.u32.wrap (IntKind.u32.wrap ((c 0).toNat:Int)*2^ min 24 32)) (IntKind.u32.wrap (IntKind.u32.wrap ((c 1).toNat:Int)*2^ min 16 32))) (IntKind.u32.wrap (IntKind.u32.wrap ((c 2).toNat:Int)*2^ min 8 32))) (IntKind.u32.wrap ((c 3).toNat:Int))=wS b t:=by rw [or4 c,a 0 (by omega),a 1 (by omega),a 2 (by omega),a 3 (by omega),j6m d];simp only [wdP,byI];omega
def subW{t:Nat}(k:Int)(n:Nat)(e:k=n)(h:n<=t)(ht:t<64):IntKind.i64.wrap ((t:Int) -k)=((t-n:Nat):Int):=by rw [wrapi (by omega)];omega
variable {AQ:Ex->List SV->List SObj->Prop}{k0:Nat}{k:List IT}{t:List SV}{c:IC}
def loopXc[Ghost]{A:SObj}{T:List SObj}(upd:Nat->List (Nat×SV))(Hf:Nat->List SObj)(μ:Nat->Nat)(p:Nat->Prop)(a:Nat)(d:p a)(e:T=Hf a)(j:leM t (setMany (maskT c.wr t) (upd a)))
 (round:∀i,p i->SoundI Tryz.prog AQ ⟨k0,.ic c :: .stop (RoundX (λi=>A :: Hf i) (λi=>setMany (maskT c.wr t) (upd i)) μ p i) :: k,setMany (maskT c.wr t) (upd i),A :: Hf i⟩):SoundI Tryz.prog AQ ⟨k0,.ic (.loop c) :: k,t,A :: T⟩:=
 q0m upd (λi=>A :: Hf i) μ p a d (by rw [e]) j round
def loopGc[Ghost]{A:SObj}{T:List SObj}(upd:Nat->List (Nat×SV))(Hf:Nat->List SObj)(μ:Nat->Nat)(p:Nat->Prop)(a:Nat)(e:p a)(d:k0<=2)(w:∀i,(A :: Hf i).length=2)(r:∀i,belH 2 (A :: Hf i)=true)(o:∀i,((upd i).all λx=>x.2.bel 2)=true)(j:T=Hf a)(u:leM t (setMany (maskT c.wr t) (upd a)))
 (round:∀i,p i->SoundI Tryz.prog AQ ⟨k0,.ic c :: .stop (RoundG (λi=>A :: Hf i) (λi=>setMany (maskT c.wr t) (upd i)) μ p i) :: k,setMany (maskT c.wr t) (upd i),A :: Hf i⟩):SoundI Tryz.prog AQ ⟨k0,.ic (.loop c) :: k,t,A :: T⟩:=
 z5I upd (λi=>A :: Hf i) μ p a e 2 (by rw [j]) d w r o u round
variable {h:List Int}
def loopXr[Ghost]{H:List SObj}(d:blkP b h 0=h)(R:List Int->SObj)(e:H= [R h,.row (.int .u32) (wL b 64)])(a:leM t (setMany (maskT c.wr t) [(186,rI (0:Nat)),(185,.dat (.arr 8 (.int .u32)) (rnds b h 64))]))
 (round:∀i,i<=8->SoundI Tryz.prog AQ ⟨k0,.ic c :: .stop (RoundX (λi=>[R (blkP b h i),.row (.int .u32) (wL b 64)]) (λi:Nat=>setMany (maskT c.wr t) [(186,rI i),(185,.dat (.arr 8 (.int .u32)) (rnds b h 64))]) (λt=>8-t) (λt=>t<=8) i) :: k,setMany (maskT c.wr t) [(186,rI i),(185,.dat (.arr 8 (.int .u32)) (rnds b h 64))],[R (blkP b h i),.row (.int .u32) (wL b 64)]⟩):SoundI Tryz.prog AQ ⟨k0,.ic (.loop c) :: k,t,H⟩:=
 q0m (λi:Nat=>[(186,rI i),(185,.dat (.arr 8 (.int .u32)) (rnds b h 64))]) (λi=>[R (blkP b h i),.row (.int .u32) (wL b 64)]) (λt=>8-t) (λt=>t<=8) 0 (Ak _) (by rw [d];exact e) a round
theorem add5(b:List UInt8)(h:List Int)(hb:b.length=64)(A:inWs h):
 (PE Tryz.prog 292 [.rptr 0 (.int .u32) 0 0,.isl .u8 b] [.row (.int .u32) h] (.ret (.tup [])) [.row (.int .u32) (blkS b h)])/\
 (∀ (r:List UInt8×Int),PE Tryz.prog 292 [.rptr 0 HH 0 0,.isl .u8 b] [.row HH [(h,r)]] (.ret (.tup [])) [.row HH [((blkS b h),r)]])/\
 (∀ (n:Int),PE Tryz.prog 292 [.rptr 0 HH 0 0,.csl 0 .u8 8 0 64] [.row HH [(h,(b,n))]] (.ret (.tup [])) [.row HH [((blkS b h),(b,n))]])/\
 (∀ (p:List UInt8×List UInt8) (r:List UInt8×Int) (rd:Bool),PE Tryz.prog 292 [.rptr 0 MH 0 128,.isl .u8 b] [.row MH [(p,((h,r),rd))]] (.ret (.tup [])) [.row MH [(p,(((blkS b h),r),rd))]])/\
 (∀ (p:List UInt8×List UInt8) (n:Int) (rd:Bool),PE Tryz.prog 292 [.rptr 0 MH 0 128,.csl 0 .u8 136 0 64] [.row MH [(p,((h,(b,n)),rd))]] (.ret (.tup [])) [.row MH [(p,(((blkS b h),(b,n)),rd))]]):=by
 refine ⟨?_,λr=> ?_,λn=> ?_,λp r rd=> ?_,λp n rd=> ?_⟩;all_goals
  refine q0b (Ae _) ?_;refine rQ fi292 ?_;refine loopXc (λt=>[(26,rI t)]) (λt=>[.row (.int .u32) (wL b t)]) (λt=>16-t) (λt=>t<=16) 0 (Ak _) (by rw [j6T];rfl) ?_ ?_
  . with_reducible refine sxE ?_;trivial
  intro t Q;have e:=wsx t (by omega);have d:=j5r b t;by_cases a:t<16
  . have Z:IntKind.i64.wrap (4* (t:Int))=((4*t:Nat):Int):=by rw [wrapi (by omega)];omega
    have Y:IntKind.i64.wrap (((4*t:Nat):Int)+4)=((4*t+4:Nat):Int):=by rw [wrapi (by omega)];omega
    refine gy4 Z Y d Ai ?_;have hdl:(List.drop (4*t) (List.take (4*t+4) b)).length=4:=by rw [Ag,Ah];omega
    refine ⟨λ_=> ?_,λh=>absurd h (by omega)⟩;repeat (with_reducible refine And.intro (by first|omega|exact ⟨by omega,by omega,by omega,by omega⟩ |exact ⟨by omega,by omega⟩) ?_)
    refine ⟨t+1,by show t+1<=16;omega,by dsimp only;omega,?_,?_⟩
    . have ho:=ldW a (λj=>(List.drop (4*t) (List.take (4*t+4) b)).getD j Ty.u8.dflt) λj hj=>by rw [Ad,Ba,By (by omega),<-Ad];rfl
      have hq:=ldW a (λj=>b.getD (4*t+j) Ty.u8.dflt) λ_ _=>rfl;first
       |rw [ho]
       |rw [hq]
      exact congrArg (λz=>[_,SObj.row (.int .u32) z]) (j5w b (by omega))
    with_reducible refine sx1 e ?_;trivial
  obtain rfl:t=16:=by omega
  refine gy2 d Ai ?_;refine ⟨λh=>absurd h (by omega),λ_=> ?_⟩;refine loopGc (λt=>[(7,rI t)]) (λt=>[.row (.int .u32) (wL b t)]) (λt=>64-t) (λt=>16<=t/\t<=64) 16 (by decide) (by decide) (λ_=>rfl) (λ_=>rfl) (λ_=>rfl) rfl ?_ ?_
  . with_reducible refine sxE ?_
    rfl
  intro t Q;have d:=j5r b t;have e:=wsx t (by omega);by_cases a:t<64
  . have E:=subW (t:=t) 15 15 rfl (by omega) a;have V:=subW (t:=t) 2 2 rfl (by omega) a;have O:=subW (t:=t) 7 7 rfl (by omega) a;have F:=subW (t:=t) 16 16 rfl (by omega) a;have D:=z3o b (t:=t) (j:=t-15) (by omega) (by omega);have R:=z3o b (t:=t) (j:=t-2) (by omega) (by omega);have U:=z3o b (t:=t) (j:=t-7) (by omega) (by omega);have G:=z3o b (t:=t) (j:=t-16) (by omega) (by omega);have C:=z8I b (t-15);have I:=z8I b (t-2);have i7:=z8I b (t-7);have i16:=z8I b (t-16);refine gyd10 E V O F D R U G d Ai ?_;refine ⟨λ_=>⟨⟨by omega,by omega⟩,by omega,⟨by omega,by omega⟩,by omega,⟨by omega,by omega⟩,by omega,⟨by omega,by omega⟩,by omega,q0i (q7x (wS b (t-2)) [17,19] I (by decide) (by decide)) ?_⟩,λh=>absurd a (by omega)⟩;refine gQ ?_;refine q0Z 2 (by decide) ?_;with_reducible refine sxE ?_
    refine q0d (q7x (wS b (t-15)) [7,18] C (by decide) (by decide)) ?_;refine uQ 600 _ ?_;simp (maxSteps:=3000000) only [E,V,O,F,D,R,U,G,d,Ai,Ty.dflt,go_sem,↓zA,↓reduceIte,↓reduceDIte] <;>try simp only [zB]
    repeat (with_reducible refine And.intro (by first|omega|exact ⟨by omega,by omega⟩) ?_)
    refine ⟨t+1,⟨by omega,a⟩,by dsimp only;omega,⟨[.dead],?_⟩,?_⟩
    . rw [schU C I,<-j6V (by omega),j5w b a];rfl
    with_reducible refine sx1 e ?_;trivial
  obtain rfl:t=64:=by omega
  refine gQ ?_;have u:=A.1;refine ⟨λh=>absurd h (by omega),λ_=> ?_⟩;repeat (with_reducible refine And.intro (by omega) ?_)
  refine z0v (t:=.arr 64 (.int .u32)) (x:=dat_sha_constants) (ag:=some 64) (s:=.dat (.arr 64 (.int .u32)) dat_sha_constants) (by unfold datList;repeat (first|exact .head _|apply List.Mem.tail)) rfl (.inr rfl) ?_;refine gQ ?_;refine loopGc (λt=>[(134,rI t),(12,.raw (.int .u32 ((rnds b h t).getD 0 0))),(13,.raw (.int .u32 ((rnds b h t).getD 1 0))),(14,.raw (.int .u32 ((rnds b h t).getD 2 0))),(15,.raw (.int .u32 ((rnds b h t).getD 3 0))),(16,.raw (.int .u32 ((rnds b h t).getD 4 0))),(17,.raw (.int .u32 ((rnds b h t).getD 5 0))),(18,.raw (.int .u32 ((rnds b h t).getD 6 0))),(19,.raw (.int .u32 ((rnds b h t).getD 7 0)))]) (λ_=>[.row (.int .u32) (wL b 64)]) (λt=>64-t) (λt=>t<=64) 0 (Ak _) (by decide) (λ_=>rfl) (λ_=>rfl) (λ_=>rfl) rfl ?_ ?_
  . with_reducible refine sxE ?_
    exact ⟨rfl,rfl,rfl,rfl,rfl,rfl,rfl,rfl⟩
  intro t Q;have e:=wsx t (by omega);by_cases a:t<64
  . have o:=z1l (b:=b) A t;generalize N:rnds b h t=v at*;have W:=q1b o 0 (by decide);have i1:=q1b o 1 (by decide);have I:=q1b o 2 (by decide);have i3:=q1b o 3 (by decide);have X:=q1b o 4 (by decide);have i5:=q1b o 5 (by decide);have i6:=q1b o 6 (by decide);have i7:=q1b o 7 (by decide);refine gyd3 u d Ai ?_;refine ⟨λ_=>⟨⟨by omega,by omega⟩,⟨by omega,by omega⟩,by omega,?_⟩,λh=>absurd a (by omega)⟩;refine q0Z 2 (by decide) ?_;with_reducible refine sxE ?_
    refine q0d (q7x _ [6,11,25] X (by decide) (by decide)) ?_;refine gyd3 u d Ai ?_;refine q0d (j2M _ _ _ X i5 i6) ?_;refine gyd3 u d Ai ?_;refine q0u 3 ?_;with_reducible refine sxE ?_
    refine cyd3 (q7x _ [2,13,22] W (by decide) (by decide)) u d Ai ?_;refine cyd3 (z7S _ _ _ W i1 I) u d Ai ?_;have hr:rnds b h (t+1)=rnd (kS t) (wS b t) v:=by show rnd (kS t) (wS b t) (rnds b h t)=_;rw [N]
    have K:=t1U (k:=kS t) (w:=wS b t) o;have J:=t2U o;refine ⟨t+1,a,by dsimp only;omega,⟨[.dead,.dead],rfl⟩,?_⟩;rw [j9P,z3o b a a,K,J,aU,eU];with_reducible refine sy2 e hr ?_
    exact ⟨rfl,rfl,rfl,rfl,rfl,rfl,rfl,rfl⟩
  obtain rfl:t=64:=by omega
  refine gyd3 u d Ai ?_;refine ⟨λh=>absurd h (by omega),λ_=> ?_⟩;have e8:=list8 (z1l (b:=b) A 64).1;first
   |refine loopXr (q4g b A.1) (λx=>.row (.int .u32) x) rfl ?_ ?_
   |refine loopXr (q4g b A.1) (λx=>.row HH [(x,r)]) rfl ?_ ?_
   |refine loopXr (q4g b A.1) (λx=>.row HH [(x,(b,n))]) rfl ?_ ?_
   |refine loopXr (q4g b A.1) (λx=>.row MH [(p,((x,r),rd))]) rfl ?_ ?_
   |refine loopXr (q4g b A.1) (λx=>.row MH [(p,((x,(b,n)),rd))]) rfl ?_ ?_
  . with_reducible refine sxE ?_
    exact congrArg (SV.dat (.arr 8 (.int .u32))) e8
  intro i hi;have e:=wsx i (by omega);have o:=z1l (b:=b) A 64;have u:=o.1;have B:=j4c b h i;by_cases a:i<8
  . have L:=j3F b h a;refine gyd4 u B Ai AO ?_;refine ⟨λ_=> ?_,λh=>absurd a (by omega)⟩;repeat (with_reducible refine And.intro (by first|omega|exact ⟨by omega,by omega⟩) ?_)
    refine ⟨i+1,a,by dsimp only;omega,?_,?_⟩
    . rw [L,wrapU];show _= [_,_];rw [<-j4O b h a]
    with_reducible refine sx1 e ?_;trivial
  obtain rfl:i=8:=by omega
  refine gyd3 u B Ai ?_;refine ⟨λh=>absurd h (by omega),λ_=> ?_⟩;rw [j2F]
def add_c(b:List UInt8)(h:List Int)(hb:b.length=64)(hh:inWs h):=(add5 b h hb hh).1
def addH_c(b:List UInt8)(r:List UInt8×Int)(h:List Int)(hb:b.length=64)(hh:inWs h):=(add5 b h hb hh).2.1 r
def addR_c(b:List UInt8)(n:Int)(h:List Int)(hb:b.length=64)(hh:inWs h):=(add5 b h hb hh).2.2.1 n
def addM_c(b:List UInt8)(ks:List UInt8×List UInt8)(r:List UInt8×Int)(rd:Bool)(h:List Int)(hb:b.length=64)(hh:inWs h):=(add5 b h hb hh).2.2.2.1 ks r rd
def addN_c(b:List UInt8)(ks:List UInt8×List UInt8)(n:Int)(rd:Bool)(h:List Int)(hb:b.length=64)(hh:inWs h):=(add5 b h hb hh).2.2.2.2 ks n rd
def padT(b:List UInt8)(total:Nat):List UInt8:=padZ b (padN b.length)++lnB8 (8*total) 8
def z1M(b:List UInt8)(a:Nat):(padT b a).length=64*blksN b:=by unfold padT blksN;rw [Aa,j3L,j2V];unfold padN;omega
def blkAt(p:List UInt8)(i:Nat):List UInt8:=(p.take (64*i+64)).drop (64*i)
variable {i:Nat}
def z2d{p:List UInt8}{N:Nat}(hp:p.length=64*N)(hi:i<N):(blkAt p i).length=64:=by unfold blkAt;rw [Ag,Ah];omega
def vwB(b:List UInt8)(total:Nat):Nat->Nat->List SV->List SObj->Prop:=λi _ args' new=>args'= [.isl .u8 (blkAt (padT b total) i)]/\new= []
theorem j5a(b:List UInt8)(a:Nat)(hb:b.length<=70368744177664):PC Tryz.prog 291 [.isl .u8 b,rI a] (.fn 298 [] [.iptr (.slice .u8) b 0,.iptr (.int .i64) a 0]):=by
 refine q0q rfl rfl ?_;refine q2i fi291 ?_;refine uQ 4 _ ?_;with_reducible refine sxE ?_
 refine q2n 2 0 (ty:=.slice .u8) (x:=b) rfl ⟨by omega,λ_ _=>trivial⟩ rfl rfl ?_;refine q2n 3 1 (ty:=.int .i64) (x:=(a:Int)) rfl trivial rfl rfl ?_;refine gQ ?_;trivial
def endP(r:List UInt8)(total S i:Nat):List UInt8:=(List.range S).map λj=>if j<r.length then r.getD j 0 else if j=r.length then 128 else if S-i<=j then UInt8.ofNat (8*total / 2^ (8* (S-1-j))%256) else 0
def q5U(r:List UInt8)(a S i:Nat):(endP r a S i).length=S:=by simp [endP]
variable {S:Nat}
theorem z2S(r:List UInt8)(a:Nat)(h:r.length<S):(splice (List.replicate S 0) 0 r).set r.length 128=endP r a S 0:=by
 apply Au
 . simp [endP,splice];omega
 intro j h1 e;rw [Bg];simp only [endP,AD,AB];rw [q5U] at e;split
 . subst_vars;rw [if_neg (by omega),if_pos rfl]
 rename_i hne;simp only [splice,A8,Ar,Ai];by_cases d:j<r.length
 . rw [if_pos d,AG d,Ad,Af d];rfl
 rw [if_neg d,if_neg (by omega),if_neg (by omega),A4 (by omega)];simp
theorem z5M(r:List UInt8)(a:Nat)(h:r.length+9<=S)(hi:i<8):(endP r a S i).set (S-1-i) (UInt8.ofNat (8*a / 2^ (8*i)%256))=endP r a S (i+1):=by
 apply Au
 . simp [endP]
 intro j e d;rw [q5U] at d;rw [Bg];simp only [endP,AD,AB];split
 . subst_vars;rw [if_neg (by omega),if_neg (by omega),if_pos (by omega)];rw [show S-1- (S-1-i)=i by omega]
 rename_i hne;by_cases e:j<r.length
 . rw [if_pos e,if_pos e]
 rw [if_neg e,if_neg e];by_cases d:j=r.length
 . rw [if_pos d,if_pos d]
 rw [if_neg d,if_neg d];by_cases o:S-i<=j
 . rw [if_pos o,if_pos (by omega)]
 rw [if_neg o,if_neg (by omega)]
def j2g(b:List UInt8)(a:Nat)(hS:S=64* (blksN b-b.length / 64)):(padT b a).drop (64* (b.length / 64))=endP (b.drop (64* (b.length / 64))) a S 8:=by
 have e:=z1M b a;have hb:blksN b=(b.length+72) / 64:=rfl;apply Au
 . rw [Ag,e,q5U];omega
 intro j p h2;rw [Ag,e] at p;have o:(b.drop (64* (b.length / 64))).length=b.length%64:=by rw [Ag];omega
 have hn:padN b.length=(119-b.length%64)%64:=rfl;rw [B7];simp only [endP,AD,AB,o];unfold padT padZ;by_cases c1:j<b.length%64
 . rw [if_pos c1,AG (by simp;omega),AG (by simp;omega),AG (by omega),Ad,Ba,Af (by omega)];rfl
 rw [if_neg c1];by_cases c2:j=b.length%64
 . rw [if_pos c2,AG (by simp;omega),AG (by simp;omega),A4 (by omega)];have:64* (b.length / 64)+j-b.length=0:=by omega
   simp [this]
 rw [if_neg c2];by_cases c3:S-8<=j
 . have d:(b++ [128]++List.replicate (padN b.length) (0:UInt8)).length=b.length+1+padN b.length:=by simp;omega
   rw [if_pos c3,A4 (by rw [d];omega)];simp only [lnB8,AD,AB,d];refine congrArg (λk=>UInt8.ofNat (8*a / 2^ (8*k)%256)) ?_;omega
 rw [if_neg c3,AG (by simp;omega),A4 (by simp;omega)];simp
theorem u64i(h:0<=x/\x<18446744073709551616):IntKind.u64.wrap x=x:=by have e:IntKind.u64.wrap x=x%18446744073709551616:=rfl;rw [e];omega
def byteQ(n i:Nat)(hi:i<=7):UInt8.ofNat (IntKind.u8.wrap ((n:Int).fdiv (2^ min (8*i) 64))).toNat=UInt8.ofNat (n / 2^ (8*i)%256):=by
 have e:((n:Int).fdiv (2^ (8*i)))=((n / 2^ (8*i):Nat):Int):=by rw [Bq _ (by exact_mod_cast Ak (2^ (8*i)))];simp
 rw [B5 (by omega),e];generalize n / 2^ (8*i)=m;rw [u8wrapR];congr 1
def q7R(p:List UInt8)(f k:Nat):blkAt p (f+k)=((p.drop (64*f)).drop (64*k)).take 64:=by unfold blkAt;rw [Bf,BB,CQ];congr 1;omega
def j1C(b:List UInt8)(a:Nat)(hi:i<b.length / 64):List.take 64 (b.drop (64*i))=blkAt (padT b a) i:=by unfold blkAt padT padZ;rw [AI (by simp;omega),AI (by simp;omega),AI (by omega),BB];congr 1;omega
theorem z2z(b:List UInt8)(total:Nat)(hb:b.length<=70368744177664)(ht:total<=70368744177664):Iter Tryz.prog 298 [] [.iptr (.slice .u8) b 0,.iptr (.int .i64) (total:Int) 0] (blksN b) (vwB b total):=by
 refine ⟨by kernel_rfl,λl B J p A=> ?_⟩;refine (q1X (yFG p) fi298 ?_).2;letI:Ghost:=topG (yFG p) [];refine gQ ?_;refine z1o [] (λi=>i) (λi=>[(4,.isl .u8 (b.drop (64*i)))]) (b.length / 64) (λ_=>True) trivial rfl (by simp) (by simp [SV.bel]) ?_ λi O _=> ?_
 . with_reducible refine sxE ?_;trivial
 have hN:blksN b=(b.length+72) / 64:=rfl;by_cases u:i<b.length / 64
 . refine uQ 600 _ ?_;simp (maxSteps:=3000000) only [Ag,go_sem,↓zA,↓reduceIte,↓reduceDIte] <;>try simp only [zB]
   refine ⟨λ_=>⟨by omega,?_⟩,λh=>absurd h (by omega)⟩;refine q2h [] p A (by omega) (λn=>⟨_,_,⟨by rw [j1C b total u],rfl⟩,q0S rfl⟩) λc=> ?_;cases c
   . refine gQ ?_;exact ⟨_,_,rfl,rfl,by omega⟩
   refine uQ 600 _ ?_;simp (maxSteps:=3000000) only [Ag,go_sem,↓zA,↓reduceIte,↓reduceDIte] <;>try simp only [zB]
   have R:List.drop 64 (List.take (b.length-64*i) (List.drop (64*i) b))=List.drop (64* (i+1)) b:=by rw [Ab (by rw [Ag];omega),Bf];congr 1
   refine ⟨⟨by omega,by omega⟩,u,trivial,⟨[],rfl⟩,?_⟩;rw [R];with_reducible refine sxE ?_;trivial
 obtain rfl:i=b.length / 64:=by omega
 refine uQ 600 _ ?_;simp (maxSteps:=3000000) only [Ag,go_sem,↓zA,↓reduceIte,↓reduceDIte] <;>try simp only [zB]
 have z:(b.drop (64* (b.length / 64))).length=b.length%64:=by rw [Ag];omega
 have d:=j2g b total (S:=64* (blksN b-b.length / 64)) rfl;generalize hr:b.drop (64* (b.length / 64))=r at*;have G:b.length-64* (b.length / 64)=b.length%64:=by omega
 rw [G];refine ⟨λh=>absurd h (by omega),λ_=>⟨λQ=> ?_,λQ=> ?_⟩⟩
 . have F:IntKind.i64.wrap (((b.length%64:Nat):Int)+9)=((b.length%64:Nat):Int)+9:=by rw [wrapi (by omega)]
   have L:64* (blksN b-b.length / 64)=128:=by omega
   rw [L] at d;have j:List.take (min (b.length%64) 128) r=r:=Ab (by omega);have I:=z2S r total (S:=128) (by omega);rw [j];repeat (with_reducible refine And.intro (by first|omega|exact ⟨by omega,by omega⟩ |exact ⟨by simp;omega,by decide⟩) ?_)
   refine q0m (ι:=Nat) (λi=>[(32,rI i)]) (λi=>[.mark (b.length / 64),.row .u8 (endP r total 128 i)]) (λi=>8-i) (λi=>i<=8) 0 (Ak _) ?_ ?_ ?_
   . rw [<-I];simp only [splice,A8,Ar,z,Ai];rfl
   . with_reducible refine sxE ?_;trivial
   intro i O;have a:=q5U r total 128 i;have o:=wsx i (by omega);by_cases w:i<8
   . have K:IntKind.i64.wrap (128-1)=127:=by rw [wrapi (by omega)];rfl
     have D:IntKind.i64.wrap (127- (i:Int))=((127-i:Nat):Int):=by rw [wrapi (by omega)];omega
     have N:IntKind.u64.wrap (total:Int)=total:=u64i (by omega);have E:IntKind.u64.wrap ((total:Int)*8)=((8*total:Nat):Int):=by rw [u64i (by omega)];omega
     have C:IntKind.i64.wrap (8* (i:Int))=((8*i:Nat):Int):=by rw [wrapi (by omega)];omega
     refine gy8 K D N E C a Ai Ai ?_;refine ⟨λ_=> ?_,λh=>absurd h (by omega)⟩;repeat (with_reducible refine And.intro (by first|omega|exact ⟨by omega,by omega⟩ |exact ⟨by omega,q3n _⟩) ?_)
     refine ⟨i+1,w,by dsimp only;omega,?_,?_⟩
     . dsimp only;rw [byteQ _ _ (by omega),<-z5M r total (by omega) w]
     with_reducible refine sx1 o ?_;trivial
   obtain rfl:i=8:=by omega
   refine uQ 6 _ ?_;with_reducible refine sy2 a Ai ?_
   refine ⟨λh=>absurd h (by omega),λ_=> ?_⟩;refine uQ 1 _ ?_;with_reducible refine sxE ?_
   refine q1k 1 rfl rfl (by rw [a];decide) ?_ ?_ ?_
   . with_reducible refine sxE ?_;trivial
   . with_reducible refine sxE ?_
     omega
   with_reducible refine sxE ?_
   have e:List.take 128 (endP r total 128 8)=endP r total 128 8:=Ab (by omega);rw [e];refine gy2 a Ai ?_;refine ⟨by omega,?_⟩;refine q2h [.dead] p A (i:=b.length / 64) (by omega) (λn=>⟨_,_,⟨by rw [show blkAt (padT b total) (b.length / 64)=_ from q7R (padT b total) (b.length / 64) 0,d,Ap],rfl⟩,q0S rfl⟩) λc=> ?_;cases c
   . refine gQ ?_;exact ⟨_,_,rfl,rfl,by omega⟩
   refine uQ 600 _ ?_;simp (maxSteps:=3000000) only [a,Ai,go_sem,↓zA,↓reduceIte,↓reduceDIte] <;>try simp only [zB]
   repeat (with_reducible refine And.intro (by first|omega|exact ⟨by omega,by omega⟩) ?_)
   refine q2h [.dead] p A (i:=b.length / 64+1) (by omega) (λn=>⟨_,_,⟨by rw [q7R _ _ 1,d,e,Ab (by rw [Ag];omega)],rfl⟩,q0S rfl⟩) λc=> ?_;cases c
   . refine gQ ?_;exact ⟨_,_,rfl,rfl,by omega⟩
   refine gQ ?_;exact ⟨_,_,rfl,rfl,by omega⟩
 have F:IntKind.i64.wrap (((b.length%64:Nat):Int)+9)=((b.length%64:Nat):Int)+9:=by rw [wrapi (by omega)]
 have L:64* (blksN b-b.length / 64)=64:=by omega
 rw [L] at d;have j:List.take (min (b.length%64) 64) r=r:=Ab (by omega);have I:=z2S r total (S:=64) (by omega);rw [j];repeat (with_reducible refine And.intro (by first|omega|exact ⟨by omega,by omega⟩ |exact ⟨by simp;omega,by decide⟩) ?_)
 refine q0m (ι:=Nat) (λi=>[(32,rI i)]) (λi=>[.mark (b.length / 64),.row .u8 (endP r total 64 i)]) (λi=>8-i) (λi=>i<=8) 0 (Ak _) ?_ ?_ ?_
 . rw [<-I];simp only [splice,A8,Ar,z,Ai];rfl
 . with_reducible refine sxE ?_;trivial
 intro i O;have a:=q5U r total 64 i;have o:=wsx i (by omega);by_cases w:i<8
 . have K:IntKind.i64.wrap (64-1)=63:=by rw [wrapi (by omega)];rfl
   have D:IntKind.i64.wrap (63- (i:Int))=((63-i:Nat):Int):=by rw [wrapi (by omega)];omega
   have N:IntKind.u64.wrap (total:Int)=total:=u64i (by omega);have E:IntKind.u64.wrap ((total:Int)*8)=((8*total:Nat):Int):=by rw [u64i (by omega)];omega
   have C:IntKind.i64.wrap (8* (i:Int))=((8*i:Nat):Int):=by rw [wrapi (by omega)];omega
   refine gy8 K D N E C a Ai Ai ?_;refine ⟨λ_=> ?_,λh=>absurd h (by omega)⟩;repeat (with_reducible refine And.intro (by first|omega|exact ⟨by omega,by omega⟩ |exact ⟨by omega,q3n _⟩) ?_)
   refine ⟨i+1,w,by dsimp only;omega,?_,?_⟩
   . dsimp only;rw [byteQ _ _ (by omega),<-z5M r total (by omega) w]
   with_reducible refine sx1 o ?_;trivial
 obtain rfl:i=8:=by omega
 refine uQ 6 _ ?_;with_reducible refine sy2 a Ai ?_
 refine ⟨λh=>absurd h (by omega),λ_=> ?_⟩;refine uQ 1 _ ?_;with_reducible refine sxE ?_
 refine q1k 1 rfl rfl (by rw [a];decide) ?_ ?_ ?_
 . with_reducible refine sxE ?_;trivial
 . with_reducible refine sxE ?_
   omega
 with_reducible refine sxE ?_
 have e:List.take 64 (endP r total 64 8)=endP r total 64 8:=Ab (by omega);rw [e];refine gy2 a Ai ?_;refine ⟨by omega,?_⟩;refine q2h [.dead] p A (i:=b.length / 64) (by omega) (λn=>⟨_,_,⟨by rw [show blkAt (padT b total) (b.length / 64)=_ from q7R (padT b total) (b.length / 64) 0,d,Ap],rfl⟩,q0S rfl⟩) λc=> ?_;cases c
 . refine gQ ?_;exact ⟨_,_,rfl,rfl,by omega⟩
 refine gQ ?_;exact ⟨_,_,rfl,rfl,by omega⟩
def foldB(h:List Int)(p:List UInt8):Nat->List Int
 |0=>h
 |k+1=>blkS (blkAt p k) (foldB h p k)
theorem q6L(p:List UInt8):∀k,foldB hS0 p k=hashS p k
 |0=>rfl
 |k+1=>by rw [foldB,q6L p k];rfl
def q1y(hh:inWs h)(p:List UInt8):∀k,inWs (foldB h p k)
 |0=>hh
 |_+1=>z3N
def smH(h:List Int)(p:List UInt8)(i:Nat)(H':List SObj):Prop:=∃G,H'= .row .u8 (List.replicate 32 0) :: .row (.int .u32) (foldB h p i) :: G
theorem j9x(b:List UInt8)(p:b.length<=70368744177664):PC Tryz.prog 274 [.isl .u8 b] (.dat (.arr 32 .u8) (shaS b)):=by
 refine q0q rfl rfl (q4t (q1X noFG fi274 ?_));letI:Ghost:=topG noFG [];refine gQ ?_;refine z0v (t:=.arr 8 (.int .u32)) (x:=dat_sha_start) (ag:=some 8) (s:=.dat (.arr 8 (.int .u32)) dat_sha_start) (by unfold datList;repeat (first|exact .head _|apply List.Mem.tail)) rfl (.inr rfl) ?_;refine gQ ?_;refine cQ (j5a b b.length p) ?_;refine z7W (smH hS0 (padS b)) (λ_ _ _=>False) rfl rfl rfl (z2z b b.length p p) (λi n d e h=>by rw [h.1];rfl) ⟨[],rfl⟩ rfl ?_ ?_ ?_
 . rintro i _ d e u ⟨G,rfl⟩ ⟨rfl,rfl⟩ z w;letI:Ghost:=pinG noFG z;rw [Ac];refine uQ 600 _ ?_;simp only [putL,Bx];with_reducible refine sxaE ?_
   letI:Ghost:=pinG noFG w;refine aQ ?_;have a:(blkAt (padT b b.length) i).length=64:=z2d (z1M b b.length) u;refine eQ [1] (add_c (blkAt (padT b b.length) i) _ a (q1y q7o _ i)) ?_;exact ⟨G,rfl⟩
 . rintro D _ ⟨G,rfl⟩;letI:Ghost:=topG noFG [D];have r:=q1y q7o (padS b) (blksN b);have hfl:=r.1;have j:bytesS (foldB hS0 (padS b) (blksN b))=shaS b:=by rw [q6L];rfl
   generalize foldB hS0 (padS b) (blksN b)=h at*;refine gQ ?_;have o:List.take 8 h=h:=Ab (by omega);rw [o];refine ⟨by omega,q0a (j0e h r) ?_⟩;have a:=q1O h;refine gy1 a ?_;rw [j]
 rintro D i ex _ u h;exact h.elim
def j0O{p q:List UInt8}(h:64*i+64<=p.length):blkAt (p++q) i=blkAt p i:=by unfold blkAt;rw [AI h]
def z4F{p q:List UInt8}{c:Nat}(h:p.length=64*c):blkAt (p++q) (c+i)=blkAt q i:=by
 unfold blkAt;rw [Cw,B0,A6 (by rw [Ah];omega),Ar,Ah,h];congr 1
 . omega
 congr 1;omega
def q3B(h:List Int){p q:List UInt8}:∀ {k:Nat},64*k<=p.length->foldB h (p++q) k=foldB h p k
 |0,_=>rfl
 |k+1,hk=>by rw [foldB,foldB,q3B h (by omega),j0O (by omega)]
def q9h(h:List Int){p q:List UInt8}{c:Nat}(a:p.length=64*c):∀k,foldB h (p++q) (c+k)=foldB (foldB h p c) q k
 |0=>by rw [AJ,q3B h (by omega)];rfl
 |k+1=>by rw [<-Ax,foldB,foldB,q9h h a k,z4F a]
abbrev HaD:Type:=List Int×List UInt8×Int
structure HRep (m:List UInt8) (x:HaD):Prop where
 n:x.2.2=(m.length:Int)
 rest:x.2.1.length=64
 len:x.1.length=8
 st:m.length≠0->x.1=foldB hS0 m (m.length / 64)
 tail:x.2.1.take (m.length%64)=m.drop (64* (m.length / 64))
theorem j2I:HRep [] (List.replicate 8 0,List.replicate 64 0,0):=⟨rfl,by simp,by simp,λh=>absurd rfl h,by simp⟩
def wrR(m rest b:List UInt8):List UInt8:=
 if m.length%64+b.length<64 then splice rest (m.length%64) b
 else splice (if 0<m.length%64 then splice rest (m.length%64) (b.take (64-m.length%64)) else rest) 0 ((m++b).drop (64* ((m++b).length / 64)))
def wrS(m:List UInt8)(x:HaD)(b:List UInt8):HaD:=(foldB hS0 (m++b) ((m++b).length / 64),wrR m x.2.1 b,((m++b).length:Int))
variable {α:Type}
def q2O{xs ys:List α}(h:i+ys.length<=xs.length):(splice xs i ys).length=xs.length:=by simp [splice];omega
def q8U{xs ys:List α}(h:i+ys.length<=xs.length):(splice xs i ys).take (i+ys.length)=xs.take i++ys:=by unfold splice;rw [AI (by rw [Aa,Ah];omega),Ab (by rw [Aa,Ah];omega)]
variable {m:List UInt8}{x:HaD}
theorem z1L(h:HRep m x):HRep (m++b) (wrS m x b):=by
 obtain ⟨h1,o,h3,h4,u⟩:=h;have hlen:(m++b).length=m.length+b.length:=Aa;have d:(wrR m x.2.1 b).length=64:=by
  unfold wrR;split
  . rw [q2O (by omega)];exact o
  have j:((m++b).drop (64* ((m++b).length / 64))).length<=64:=by rw [Ag];omega
  split
  . rw [q2O,q2O] <;> (try rw [q2O]) <;> (try rw [Ah]) <;>omega
  rw [q2O] <;>omega
 refine ⟨rfl,d,(q1y q7o _ _).1,λ_=>rfl,?_⟩;show (wrR m x.2.1 b).take _=_;unfold wrR at d⊢;split
 . rename_i hlt;have e:(m++b).length%64=m.length%64+b.length:=by omega
   rw [e,q8U (by omega),u,Bj (by omega)];congr 2;omega
 rename_i a;rw [if_neg a] at d;have j:((m++b).drop (64* ((m++b).length / 64))).length=(m++b).length%64:=by rw [Ag];omega
 generalize p:(if 0<m.length%64 then splice x.2.1 (m.length%64) (b.take (64-m.length%64)) else x.2.1)=r at*;generalize ht:(m++b).drop (64* ((m++b).length / 64))=t at*;have hrl:r.length=64:=by
  rw [<-p];split
  . rw [q2O] <;> (try rw [Ah]) <;>omega
  exact o
 have:=q8U (xs:=r) (ys:=t) (i:=0) (by omega);rw [Ai,A8,Ar] at this;rw [<-j];exact this
def j4Y(h:HRep m x)(d:m.length≠0):bytesS (foldB x.1 (padT (x.2.1.take (m.length%64)) m.length) (blksN (x.2.1.take (m.length%64))))=shaS m:=by
 obtain ⟨h1,h2,h3,j,o⟩:=h;rw [j d,o];have a:padS m=m.take (64* (m.length / 64))++padT (m.drop (64* (m.length / 64))) m.length:=by
  unfold padS padT padZ;have e:padN (m.drop (64* (m.length / 64))).length=padN m.length:=by rw [Ag];unfold padN;congr 2;omega
  rw [e];simp only [<-List.append_assoc,AH]
 have r:blksN m=m.length / 64+blksN (m.drop (64* (m.length / 64))):=by unfold blksN;rw [Ag];omega
 unfold shaS;rw [<-q6L,a,r,q9h hS0 (by rw [Ah];omega)];congr 2;have:=q3B hS0 (p:=m.take (64* (m.length / 64))) (q:=m.drop (64* (m.length / 64))) (k:=m.length / 64) (by rw [Ah];omega);rw [AH] at this;exact this
theorem tmod64(n:Nat):((n:Int)).tmod 64=((n%64:Nat):Int):=by rw [Bh (by omega)];rfl
def q7w{rest:List UInt8}(h:m.length%64=0):wrR m rest b=splice rest 0 (b.drop (64* (b.length / 64))):=by
 have a:(m++b).length=m.length+b.length:=Aa;unfold wrR;rw [h];split
 . rw [show 64* (b.length / 64)=0 by omega,Ap]
 rw [if_neg (by omega),a,B0,A6 (by omega),Ar];congr 2;omega
theorem z2g(a:x.1=foldB hS0 m (m.length / 64))(h:m.length%64+b.length<64):(x.1,List.take (m.length%64) x.2.1++b++List.drop (m.length%64+b.length) x.2.1,((m.length+b.length:Nat):Int))=wrS m x b:=by have d:(m++b).length=m.length+b.length:=Aa;unfold wrS wrR;rw [if_pos h,d,show (m.length+b.length) / 64=m.length / 64 by omega,q3B hS0 (by omega),<-a];rfl
def z2h{pre d:List UInt8}{c0:Nat}(hp:pre.length=64*c0)(a:pre++d=m++b):(m++b).drop (64* ((m++b).length / 64))=d.drop (64* (d.length / 64)):=by rw [<-a,Aa,B0,A6 (by omega),Ar];congr 1;omega
theorem q4M{pre d a:List UInt8}{c0:Nat}{j:List Int}(u:pre.length=64*c0)(e:pre++d=m++b)(r:wrR m x.2.1 b=splice a 0 (d.drop (64* (d.length / 64))))(o:j=foldB hS0 pre c0:=by first|rfl|assumption):
 (foldB j d (d.length / 64),List.take 0 a++d.drop (64* (d.length / 64))++List.drop (0+ (d.drop (64* (d.length / 64))).length) a,((m.length+b.length:Nat):Int))=wrS m x b:=by
 have p:(m++b).length=m.length+b.length:=Aa;have w:(m++b).length / 64=c0+d.length / 64:=by rw [<-e,Aa];omega
 unfold wrS;rw [r,w,p,<-e,q9h hS0 u,o];rfl
def z4a(m b:List UInt8)(x:HaD)(O:HRep m x)(hl:m.length+b.length<=70368744177664):PE Tryz.prog 277 [.rptr 0 HH 0 0,.isl .u8 b] [.row HH [x]] (.ret (rI 0)) [.row HH [wrS m x b]]:=by
 obtain ⟨st,rest,n⟩:=x;obtain rfl:n=(m.length:Int):=O.n;have h2:rest.length=64:=O.rest;have h3:st.length=8:=O.len;have X:m.length≠0->st=foldB hS0 m (m.length / 64):=O.st;have Y:rest.take (m.length%64)=m.drop (64* (m.length / 64)):=O.tail;have D:=tmod64 m.length;have F:IntKind.i64.wrap ((m.length:Int)+ (b.length:Int))=((m.length+b.length:Nat):Int):=by rw [wrapi (by omega)];omega
 have hme:(m++b).length=m.length+b.length:=Aa;refine q0b (Ae _) ?_;refine q2i fi277 ?_;by_cases c0:m.length=0
 . have U:m= []:=AK.1 c0;have N:((m.length:Int)=0)=True:=eq_true (by omega);have K:(0< ((m.length%64:Nat):Int))=False:=eq_false (by omega);refine gy1 N ?_;refine z0v (t:=.arr 8 (.int .u32)) (x:=dat_sha_start) (ag:=some 8) (s:=.dat (.arr 8 (.int .u32)) dat_sha_start) (by unfold datList;repeat (first|exact .head _|apply List.Mem.tail)) rfl (.inr rfl) ?_;refine gy3 D F K ?_;have hst1:inWs hS0:=q7o;have e:([]:List UInt8).length=64*0:=rfl;have d:[]++b=m++b:=by rw [U]
   have w:wrR m rest b=splice rest 0 (b.drop (64* (b.length / 64))):=q7w (by omega);refine ⟨by decide,?_⟩;refine q0m (ι:=Nat) (λi=>[(1,.isl .u8 (b.drop (64*i)))]) (λi=>[.row HH [(foldB hS0 b i,(rest,((m.length+b.length:Nat):Int)))]]) (λi=>b.length / 64-i) (λi=>i<=b.length / 64) 0 (Ak _) ?_ ?_ ?_
   . rfl
   . with_reducible refine sxE ?_;trivial
   intro i W;have Q:inWs (foldB hS0 b i):=q1y hst1 _ _;have a:(b.drop (64*i)).length=b.length-64*i:=Ag;by_cases p:i<b.length / 64
   . have o:(List.take 64 (b.drop (64*i))).length=64:=by rw [Ah];omega
     have z:List.take 64 (b.drop (64*i))=blkAt b i:=by unfold blkAt;rw [BB];congr 1;omega
     have j:List.drop 64 (List.take (b.length-64*i) (b.drop (64*i)))=b.drop (64* (i+1)):=by rw [Ab (by omega),Bf];congr 1
     have B:(64<=((b.length-64*i:Nat):Int))=True:=eq_true (by omega);refine uQ 11 _ ?_;with_reducible refine sy2 a B ?_
     refine q1B [] mixed ?_;refine gQ ?_;refine ⟨by omega,?_⟩;refine q0v [0] (addH_c (List.take 64 (b.drop (64*i))) (rest,((m.length+b.length:Nat):Int)) _ o Q) rfl (by decide) (by repeat first|exact trivial|exact rfl|refine And.intro ?_ ?_) rfl rfl (λ_ h=>by cases h) ?_;simp only [afterR,Out.ren,SV.ren,mgA,sig,SObj.ren,SV.renL,List.set,List.map,Ac];refine gy1 a ?_;rw [j];refine ⟨⟨by omega,by omega⟩,i+1,p,by dsimp only;omega,?_,?_⟩
     . rw [z];rfl
     with_reducible refine sxE ?_;trivial
   obtain rfl:i=b.length / 64:=by omega
   have B:(64<=((b.length-64* (b.length / 64):Nat):Int))=False:=eq_false (by omega);have u:min (b.length-64* (b.length / 64)) 64=b.length-64* (b.length / 64):=by omega
   refine gy3 a B u ?_;rw [Ab (l:=b.drop (64* (b.length / 64))) (by omega)];repeat (with_reducible refine And.intro (by first|omega|exact ⟨by omega,by omega⟩) ?_)
   exact congrArg (λx=>SObj.row HH [x]) (q4M (x:=(st,rest,(m.length:Int))) e d w)

 have N:((m.length:Int)=0)=False:=eq_false (by omega);have I:=X c0;have hst1:inWs st:=I▸q1y q7o _ _;by_cases c1:0<m.length%64
 . have K:(0< ((m.length%64:Nat):Int))=True:=eq_true (by omega);by_cases c2:m.length%64+b.length<64
   . have R:min b.length (64-m.length%64)=b.length:=by omega
     have G:IntKind.i64.wrap (((m.length%64:Nat):Int)+ (b.length:Int))=((m.length%64+b.length:Nat):Int):=by rw [wrapi (by omega)];omega
     have V:(((m.length%64+b.length:Nat):Int) <64)=True:=eq_true (by omega);refine uQ 600 _ ?_;simp (maxSteps:=3000000) only [N,D,F,K,R,G,V,Aw,go_sem,↓zA,↓reduceIte,↓reduceDIte] <;>try simp only [zB]
     repeat (with_reducible refine And.intro (by first|omega|exact ⟨by omega,by omega⟩ |exact ⟨by omega,by omega,by omega⟩) ?_)
     exact congrArg (λx=>SObj.row HH [x]) (z2g (x:=(st,rest,(m.length:Int))) I c2)
   have R:min b.length (64-m.length%64)=64-m.length%64:=by omega
   have G:IntKind.i64.wrap (((m.length%64:Nat):Int)+ ((64-m.length%64:Nat):Int))=((64:Nat):Int):=by rw [wrapi (by omega)];omega
   have C:(List.take (64-m.length%64) b).length=64-m.length%64:=by rw [Ah];omega
   have A:m.length%64+ (64-m.length%64)=64:=by omega
   have V:(((64:Nat):Int) <64)=False:=eq_false (by omega);have e:(m++b.take (64-m.length%64)).length=64* (m.length / 64+1):=by rw [Aa,C];omega
   have d:m++b.take (64-m.length%64)++b.drop (64-m.length%64)=m++b:=by rw [List.append_assoc,AH]
   obtain ⟨r,E⟩:∃r,r=(List.take (m.length%64) rest++List.take (64-m.length%64) b++List.drop 64 rest):=⟨_,rfl⟩;have L:r.length=64:=by rw [E,Aa,Aa,C,Ah,Ag];omega
   have w:wrR m rest b=splice r 0 ((b.drop (64-m.length%64)).drop (64* ((b.drop (64-m.length%64)).length / 64))):=by unfold wrR;rw [if_neg c2,if_pos c1,E,z2h e d];simp only [splice,C,A]
   have hstD:blkS r st=foldB hS0 (m++b.take (64-m.length%64)) (m.length / 64+1):=by rw [foldB,q3B hS0 (by omega),<-I];congr 1;unfold blkAt;rw [Ab (by omega),Bj (by omega),<-Y,E,show List.drop 64 rest= [] from A6 (by omega),Ac]
   have J:inWs (blkS r st):=z3N;have hbl1:(List.drop (64-m.length%64) b).length=b.length- (64-m.length%64):=Ag;refine uQ 74 _ ?_;simp (maxSteps:=3000000) only [N,D,F,K,R,G,C,A,V,go_sem,↓zA,↓reduceIte,↓reduceDIte] <;>try simp only [zB]
   rw [<-E];refine ⟨by decide,⟨by omega,by omega,by omega⟩,by omega,?_⟩;refine q1B [] mixed ?_;refine gQ ?_;refine ⟨⟨by omega,by omega⟩,?_⟩;refine q0v [0] (addR_c r ((m.length+b.length:Nat):Int) _ L hst1) rfl (by decide) (by repeat first|exact trivial|exact rfl|refine And.intro ?_ ?_) rfl rfl (λ_ h=>by cases h) ?_;simp only [afterR,Out.ren,SV.ren,mgA,sig,SObj.ren,SV.renL,List.set,List.map,Ac];refine gy1 R ?_;rw [Aw];refine ⟨⟨by omega,by omega⟩,?_⟩;replace hst1:=J;refine q0m (ι:=Nat) (λi=>[(1,.isl .u8 ((b.drop (64-m.length%64)).drop (64*i)))]) (λi=>[.row HH [(foldB (blkS r st) (b.drop (64-m.length%64)) i,(r,((m.length+b.length:Nat):Int)))]]) (λi=>(b.drop (64-m.length%64)).length / 64-i) (λi=>i<=(b.drop (64-m.length%64)).length / 64) 0 (Ak _) ?_ ?_ ?_
   . rfl
   . with_reducible refine sxE ?_;trivial
   intro i W;have Q:inWs (foldB (blkS r st) (b.drop (64-m.length%64)) i):=q1y hst1 _ _;have a:((b.drop (64-m.length%64)).drop (64*i)).length=(b.drop (64-m.length%64)).length-64*i:=Ag;by_cases p:i< (b.drop (64-m.length%64)).length / 64
   . have o:(List.take 64 ((b.drop (64-m.length%64)).drop (64*i))).length=64:=by rw [Ah];omega
     have z:List.take 64 ((b.drop (64-m.length%64)).drop (64*i))=blkAt (b.drop (64-m.length%64)) i:=by unfold blkAt;rw [BB];congr 1;omega
     have j:List.drop 64 (List.take ((b.drop (64-m.length%64)).length-64*i) ((b.drop (64-m.length%64)).drop (64*i)))=(b.drop (64-m.length%64)).drop (64* (i+1)):=by rw [Ab (by omega),Bf];congr 1
     have B:(64<=(((b.drop (64-m.length%64)).length-64*i:Nat):Int))=True:=eq_true (by omega);refine uQ 11 _ ?_;with_reducible refine sy2 a B ?_
     refine q1B [] mixed ?_;refine gQ ?_;refine ⟨by omega,?_⟩;refine q0v [0] (addH_c (List.take 64 ((b.drop (64-m.length%64)).drop (64*i))) (r,((m.length+b.length:Nat):Int)) _ o Q) rfl (by decide) (by repeat first|exact trivial|exact rfl|refine And.intro ?_ ?_) rfl rfl (λ_ h=>by cases h) ?_;simp only [afterR,Out.ren,SV.ren,mgA,sig,SObj.ren,SV.renL,List.set,List.map,Ac];refine gy1 a ?_;rw [j];refine ⟨⟨by omega,by omega⟩,i+1,p,by dsimp only;omega,?_,?_⟩
     . rw [z];rfl
     with_reducible refine sxE ?_;trivial
   obtain rfl:i=(b.drop (64-m.length%64)).length / 64:=by omega
   have B:(64<=(((b.drop (64-m.length%64)).length-64* ((b.drop (64-m.length%64)).length / 64):Nat):Int))=False:=eq_false (by omega);have u:min ((b.drop (64-m.length%64)).length-64* ((b.drop (64-m.length%64)).length / 64)) 64=(b.drop (64-m.length%64)).length-64* ((b.drop (64-m.length%64)).length / 64):=by omega
   refine gy3 a B u ?_;rw [Ab (l:=(b.drop (64-m.length%64)).drop (64* ((b.drop (64-m.length%64)).length / 64))) (by omega)];repeat (with_reducible refine And.intro (by first|omega|exact ⟨by omega,by omega⟩) ?_)
   exact congrArg (λx=>SObj.row HH [x]) (q4M (x:=(st,rest,(m.length:Int))) e d w)

 have K:(0< ((m.length%64:Nat):Int))=False:=eq_false (by omega);refine gy4 N D F K ?_;have e:m.length=64* (m.length / 64):=by omega
 have d:m++b=m++b:=rfl;have w:wrR m rest b=splice rest 0 (b.drop (64* (b.length / 64))):=q7w (by omega);refine ⟨by decide,?_⟩;refine q0m (ι:=Nat) (λi=>[(1,.isl .u8 (b.drop (64*i)))]) (λi=>[.row HH [(foldB st b i,(rest,((m.length+b.length:Nat):Int)))]]) (λi=>b.length / 64-i) (λi=>i<=b.length / 64) 0 (Ak _) ?_ ?_ ?_
 . rfl
 . with_reducible refine sxE ?_;trivial
 intro i W;have Q:inWs (foldB st b i):=q1y hst1 _ _;have a:(b.drop (64*i)).length=b.length-64*i:=Ag;by_cases p:i<b.length / 64
 . have o:(List.take 64 (b.drop (64*i))).length=64:=by rw [Ah];omega
   have z:List.take 64 (b.drop (64*i))=blkAt b i:=by unfold blkAt;rw [BB];congr 1;omega
   have j:List.drop 64 (List.take (b.length-64*i) (b.drop (64*i)))=b.drop (64* (i+1)):=by rw [Ab (by omega),Bf];congr 1
   have B:(64<=((b.length-64*i:Nat):Int))=True:=eq_true (by omega);refine uQ 11 _ ?_;with_reducible refine sy2 a B ?_
   refine q1B [] mixed ?_;refine gQ ?_;refine ⟨by omega,?_⟩;refine q0v [0] (addH_c (List.take 64 (b.drop (64*i))) (rest,((m.length+b.length:Nat):Int)) _ o Q) rfl (by decide) (by repeat first|exact trivial|exact rfl|refine And.intro ?_ ?_) rfl rfl (λ_ h=>by cases h) ?_;simp only [afterR,Out.ren,SV.ren,mgA,sig,SObj.ren,SV.renL,List.set,List.map,Ac];refine gy1 a ?_;rw [j];refine ⟨⟨by omega,by omega⟩,i+1,p,by dsimp only;omega,?_,?_⟩
   . rw [z];rfl
   with_reducible refine sxE ?_;trivial
 obtain rfl:i=b.length / 64:=by omega
 have B:(64<=((b.length-64* (b.length / 64):Nat):Int))=False:=eq_false (by omega);have u:min (b.length-64* (b.length / 64)) 64=b.length-64* (b.length / 64):=by omega
 refine gy3 a B u ?_;rw [Ab (l:=b.drop (64* (b.length / 64))) (by omega)];repeat (with_reducible refine And.intro (by first|omega|exact ⟨by omega,by omega⟩) ?_)
 exact congrArg (λx=>SObj.row HH [x]) (q4M (x:=(st,rest,(m.length:Int))) e d w)

def j1V(m b:List UInt8)(x:HaD)(j:List UInt8×List UInt8)(rd:Bool)(Q:HRep m x)(hl:m.length+b.length<=70368744177664):PE Tryz.prog 277 [.rptr 0 MH 0 128,.isl .u8 b] [.row MH [(j,(x,rd))]] (.ret (rI 0)) [.row MH [(j,(wrS m x b,rd))]]:=by
 obtain ⟨st,rest,n⟩:=x;obtain rfl:n=(m.length:Int):=Q.n;have h2:rest.length=64:=Q.rest;have h3:st.length=8:=Q.len;have Y:m.length≠0->st=foldB hS0 m (m.length / 64):=Q.st;have Z:rest.take (m.length%64)=m.drop (64* (m.length / 64)):=Q.tail;have E:=tmod64 m.length;have G:IntKind.i64.wrap ((m.length:Int)+ (b.length:Int))=((m.length+b.length:Nat):Int):=by rw [wrapi (by omega)];omega
 have hme:(m++b).length=m.length+b.length:=Aa;refine q0b (Ae _) ?_;refine q2i fi277 ?_;by_cases c0:m.length=0
 . have V:m= []:=AK.1 c0;have O:((m.length:Int)=0)=True:=eq_true (by omega);have L:(0< ((m.length%64:Nat):Int))=False:=eq_false (by omega);refine gy1 O ?_;refine z0v (t:=.arr 8 (.int .u32)) (x:=dat_sha_start) (ag:=some 8) (s:=.dat (.arr 8 (.int .u32)) dat_sha_start) (by unfold datList;repeat (first|exact .head _|apply List.Mem.tail)) rfl (.inr rfl) ?_;refine gy3 E G L ?_;have hst1:inWs hS0:=q7o;have e:([]:List UInt8).length=64*0:=rfl;have d:[]++b=m++b:=by rw [V]
   have z:wrR m rest b=splice rest 0 (b.drop (64* (b.length / 64))):=q7w (by omega);refine ⟨by decide,?_⟩;refine q0m (ι:=Nat) (λi=>[(1,.isl .u8 (b.drop (64*i)))]) (λi=>[.row MH [(j,((foldB hS0 b i,(rest,((m.length+b.length:Nat):Int))),rd))]]) (λi=>b.length / 64-i) (λi=>i<=b.length / 64) 0 (Ak _) ?_ ?_ ?_
   . rfl
   . with_reducible refine sxE ?_;trivial
   intro i X;have R:inWs (foldB hS0 b i):=q1y hst1 _ _;have a:(b.drop (64*i)).length=b.length-64*i:=Ag;by_cases r:i<b.length / 64
   . have p:(List.take 64 (b.drop (64*i))).length=64:=by rw [Ah];omega
     have A:List.take 64 (b.drop (64*i))=blkAt b i:=by unfold blkAt;rw [BB];congr 1;omega
     have o:List.drop 64 (List.take (b.length-64*i) (b.drop (64*i)))=b.drop (64* (i+1)):=by rw [Ab (by omega),Bf];congr 1
     have C:(64<=((b.length-64*i:Nat):Int))=True:=eq_true (by omega);refine uQ 11 _ ?_;with_reducible refine sy2 a C ?_
     refine q1B [] mixed ?_;refine gQ ?_;refine ⟨by omega,?_⟩;refine q0v [0] (addM_c (List.take 64 (b.drop (64*i))) j (rest,((m.length+b.length:Nat):Int)) rd _ p R) rfl (by decide) (by repeat first|exact trivial|exact rfl|refine And.intro ?_ ?_) rfl rfl (λ_ h=>by cases h) ?_;simp only [afterR,Out.ren,SV.ren,mgA,sig,SObj.ren,SV.renL,List.set,List.map,Ac];refine gy1 a ?_;rw [o];refine ⟨⟨by omega,by omega⟩,i+1,r,by dsimp only;omega,?_,?_⟩
     . rw [A];rfl
     with_reducible refine sxE ?_;trivial
   obtain rfl:i=b.length / 64:=by omega
   have C:(64<=((b.length-64* (b.length / 64):Nat):Int))=False:=eq_false (by omega);have w:min (b.length-64* (b.length / 64)) 64=b.length-64* (b.length / 64):=by omega
   refine gy3 a C w ?_;rw [Ab (l:=b.drop (64* (b.length / 64))) (by omega)];repeat (with_reducible refine And.intro (by first|omega|exact ⟨by omega,by omega⟩) ?_)
   exact congrArg (λx=>SObj.row MH [(j,(x,rd))]) (q4M (x:=(st,rest,(m.length:Int))) e d z)

 have O:((m.length:Int)=0)=False:=eq_false (by omega);have J:=Y c0;have hst1:inWs st:=J▸q1y q7o _ _;by_cases c1:0<m.length%64
 . have L:(0< ((m.length%64:Nat):Int))=True:=eq_true (by omega);by_cases c2:m.length%64+b.length<64
   . have U:min b.length (64-m.length%64)=b.length:=by omega
     have I:IntKind.i64.wrap (((m.length%64:Nat):Int)+ (b.length:Int))=((m.length%64+b.length:Nat):Int):=by rw [wrapi (by omega)];omega
     have W:(((m.length%64+b.length:Nat):Int) <64)=True:=eq_true (by omega);refine uQ 600 _ ?_;simp (maxSteps:=3000000) only [O,E,G,L,U,I,W,Aw,go_sem,↓zA,↓reduceIte,↓reduceDIte] <;>try simp only [zB]
     repeat (with_reducible refine And.intro (by first|omega|exact ⟨by omega,by omega⟩ |exact ⟨by omega,by omega,by omega⟩) ?_)
     exact congrArg (λx=>SObj.row MH [(j,(x,rd))]) (z2g (x:=(st,rest,(m.length:Int))) J c2)
   have U:min b.length (64-m.length%64)=64-m.length%64:=by omega
   have I:IntKind.i64.wrap (((m.length%64:Nat):Int)+ ((64-m.length%64:Nat):Int))=((64:Nat):Int):=by rw [wrapi (by omega)];omega
   have D:(List.take (64-m.length%64) b).length=64-m.length%64:=by rw [Ah];omega
   have B:m.length%64+ (64-m.length%64)=64:=by omega
   have W:(((64:Nat):Int) <64)=False:=eq_false (by omega);have e:(m++b.take (64-m.length%64)).length=64* (m.length / 64+1):=by rw [Aa,D];omega
   have d:m++b.take (64-m.length%64)++b.drop (64-m.length%64)=m++b:=by rw [List.append_assoc,AH]
   obtain ⟨u,F⟩:∃u,u=(List.take (m.length%64) rest++List.take (64-m.length%64) b++List.drop 64 rest):=⟨_,rfl⟩;have N:u.length=64:=by rw [F,Aa,Aa,D,Ah,Ag];omega
   have z:wrR m rest b=splice u 0 ((b.drop (64-m.length%64)).drop (64* ((b.drop (64-m.length%64)).length / 64))):=by unfold wrR;rw [if_neg c2,if_pos c1,F,z2h e d];simp only [splice,D,B]
   have hstD:blkS u st=foldB hS0 (m++b.take (64-m.length%64)) (m.length / 64+1):=by rw [foldB,q3B hS0 (by omega),<-J];congr 1;unfold blkAt;rw [Ab (by omega),Bj (by omega),<-Z,F,show List.drop 64 rest= [] from A6 (by omega),Ac]
   have K:inWs (blkS u st):=z3N;have hbl1:(List.drop (64-m.length%64) b).length=b.length- (64-m.length%64):=Ag;refine uQ 74 _ ?_;simp (maxSteps:=3000000) only [O,E,G,L,U,I,D,B,W,go_sem,↓zA,↓reduceIte,↓reduceDIte] <;>try simp only [zB]
   rw [<-F];refine ⟨by decide,⟨by omega,by omega,by omega⟩,by omega,?_⟩;refine q1B [] mixed ?_;refine gQ ?_;refine ⟨⟨by omega,by omega⟩,?_⟩;refine q0v [0] (addN_c u j ((m.length+b.length:Nat):Int) rd _ N hst1) rfl (by decide) (by repeat first|exact trivial|exact rfl|refine And.intro ?_ ?_) rfl rfl (λ_ h=>by cases h) ?_;simp only [afterR,Out.ren,SV.ren,mgA,sig,SObj.ren,SV.renL,List.set,List.map,Ac];refine gy1 U ?_;rw [Aw];refine ⟨⟨by omega,by omega⟩,?_⟩;replace hst1:=K;refine q0m (ι:=Nat) (λi=>[(1,.isl .u8 ((b.drop (64-m.length%64)).drop (64*i)))]) (λi=>[.row MH [(j,((foldB (blkS u st) (b.drop (64-m.length%64)) i,(u,((m.length+b.length:Nat):Int))),rd))]]) (λi=>(b.drop (64-m.length%64)).length / 64-i) (λi=>i<=(b.drop (64-m.length%64)).length / 64) 0 (Ak _) ?_ ?_ ?_
   . rfl
   . with_reducible refine sxE ?_;trivial
   intro i X;have R:inWs (foldB (blkS u st) (b.drop (64-m.length%64)) i):=q1y hst1 _ _;have a:((b.drop (64-m.length%64)).drop (64*i)).length=(b.drop (64-m.length%64)).length-64*i:=Ag;by_cases r:i< (b.drop (64-m.length%64)).length / 64
   . have p:(List.take 64 ((b.drop (64-m.length%64)).drop (64*i))).length=64:=by rw [Ah];omega
     have A:List.take 64 ((b.drop (64-m.length%64)).drop (64*i))=blkAt (b.drop (64-m.length%64)) i:=by unfold blkAt;rw [BB];congr 1;omega
     have o:List.drop 64 (List.take ((b.drop (64-m.length%64)).length-64*i) ((b.drop (64-m.length%64)).drop (64*i)))=(b.drop (64-m.length%64)).drop (64* (i+1)):=by rw [Ab (by omega),Bf];congr 1
     have C:(64<=(((b.drop (64-m.length%64)).length-64*i:Nat):Int))=True:=eq_true (by omega);refine uQ 11 _ ?_;with_reducible refine sy2 a C ?_
     refine q1B [] mixed ?_;refine gQ ?_;refine ⟨by omega,?_⟩;refine q0v [0] (addM_c (List.take 64 ((b.drop (64-m.length%64)).drop (64*i))) j (u,((m.length+b.length:Nat):Int)) rd _ p R) rfl (by decide) (by repeat first|exact trivial|exact rfl|refine And.intro ?_ ?_) rfl rfl (λ_ h=>by cases h) ?_;simp only [afterR,Out.ren,SV.ren,mgA,sig,SObj.ren,SV.renL,List.set,List.map,Ac];refine gy1 a ?_;rw [o];refine ⟨⟨by omega,by omega⟩,i+1,r,by dsimp only;omega,?_,?_⟩
     . rw [A];rfl
     with_reducible refine sxE ?_;trivial
   obtain rfl:i=(b.drop (64-m.length%64)).length / 64:=by omega
   have C:(64<=(((b.drop (64-m.length%64)).length-64* ((b.drop (64-m.length%64)).length / 64):Nat):Int))=False:=eq_false (by omega);have w:min ((b.drop (64-m.length%64)).length-64* ((b.drop (64-m.length%64)).length / 64)) 64=(b.drop (64-m.length%64)).length-64* ((b.drop (64-m.length%64)).length / 64):=by omega
   refine gy3 a C w ?_;rw [Ab (l:=(b.drop (64-m.length%64)).drop (64* ((b.drop (64-m.length%64)).length / 64))) (by omega)];repeat (with_reducible refine And.intro (by first|omega|exact ⟨by omega,by omega⟩) ?_)
   exact congrArg (λx=>SObj.row MH [(j,(x,rd))]) (q4M (x:=(st,rest,(m.length:Int))) e d z)

 have L:(0< ((m.length%64:Nat):Int))=False:=eq_false (by omega);refine gy4 O E G L ?_;have e:m.length=64* (m.length / 64):=by omega
 have d:m++b=m++b:=rfl;have z:wrR m rest b=splice rest 0 (b.drop (64* (b.length / 64))):=q7w (by omega);refine ⟨by decide,?_⟩;refine q0m (ι:=Nat) (λi=>[(1,.isl .u8 (b.drop (64*i)))]) (λi=>[.row MH [(j,((foldB st b i,(rest,((m.length+b.length:Nat):Int))),rd))]]) (λi=>b.length / 64-i) (λi=>i<=b.length / 64) 0 (Ak _) ?_ ?_ ?_
 . rfl
 . with_reducible refine sxE ?_;trivial
 intro i X;have R:inWs (foldB st b i):=q1y hst1 _ _;have a:(b.drop (64*i)).length=b.length-64*i:=Ag;by_cases r:i<b.length / 64
 . have p:(List.take 64 (b.drop (64*i))).length=64:=by rw [Ah];omega
   have A:List.take 64 (b.drop (64*i))=blkAt b i:=by unfold blkAt;rw [BB];congr 1;omega
   have o:List.drop 64 (List.take (b.length-64*i) (b.drop (64*i)))=b.drop (64* (i+1)):=by rw [Ab (by omega),Bf];congr 1
   have C:(64<=((b.length-64*i:Nat):Int))=True:=eq_true (by omega);refine uQ 11 _ ?_;with_reducible refine sy2 a C ?_
   refine q1B [] mixed ?_;refine gQ ?_;refine ⟨by omega,?_⟩;refine q0v [0] (addM_c (List.take 64 (b.drop (64*i))) j (rest,((m.length+b.length:Nat):Int)) rd _ p R) rfl (by decide) (by repeat first|exact trivial|exact rfl|refine And.intro ?_ ?_) rfl rfl (λ_ h=>by cases h) ?_;simp only [afterR,Out.ren,SV.ren,mgA,sig,SObj.ren,SV.renL,List.set,List.map,Ac];refine gy1 a ?_;rw [o];refine ⟨⟨by omega,by omega⟩,i+1,r,by dsimp only;omega,?_,?_⟩
   . rw [A];rfl
   with_reducible refine sxE ?_;trivial
 obtain rfl:i=b.length / 64:=by omega
 have C:(64<=((b.length-64* (b.length / 64):Nat):Int))=False:=eq_false (by omega);have w:min (b.length-64* (b.length / 64)) 64=b.length-64* (b.length / 64):=by omega
 refine gy3 a C w ?_;rw [Ab (l:=b.drop (64* (b.length / 64))) (by omega)];repeat (with_reducible refine And.intro (by first|omega|exact ⟨by omega,by omega⟩) ?_)
 exact congrArg (λx=>SObj.row MH [(j,(x,rd))]) (q4M (x:=(st,rest,(m.length:Int))) e d z)

theorem j5O(m:List UInt8)(x:HaD)(o:HRep m x)(J:m.length<=70368744177664):PC Tryz.prog 279 [.iptr HH x 0] (.dat (.arr 32 .u8) (shaS m)):=by
 have u:=j4Y o;obtain ⟨st,rest,n⟩:=x;obtain rfl:n=(m.length:Int):=o.n;have h2:rest.length=64:=o.rest;have K:st.length=8:=o.len;have I:m.length≠0->st=foldB hS0 m (m.length / 64):=o.st;have A:=tmod64 m.length;refine q0q rfl rfl (q4t (q1X noFG fi279 ?_));letI:Ghost:=topG noFG [];by_cases c0:m.length=0
 . have w:m= []:=AK.1 c0;have z:((m.length:Int)=0)=True:=eq_true (by omega);refine gy1 z ?_;refine q0a ((j9x [] (by simp)).arg ?_) ?_
   . with_reducible refine sxE ?_;trivial
   have a:(shaS []).length=32:=q1O _;refine gy1 a ?_;rw [w]
 have z:((m.length:Int)=0)=False:=eq_false (by omega);have e:inWs st:=(I c0)▸q1y q7o _ _;refine gy2 z A ?_;rw [CH];refine ⟨by decide,⟨by omega,by omega,by omega⟩,?_⟩;have j:(List.take (m.length%64) rest).length<=70368744177664:=by rw [Ah];omega
 have C:bytesS (foldB st (padT (List.take (m.length%64) rest) m.length) (blksN (List.take (m.length%64) rest)))=shaS m:=u c0;generalize List.take (m.length%64) rest=r at*;refine cR (j5a r m.length j) ?_;refine z7W (smH st (padT r m.length)) (λ_ _ _=>False) rfl rfl rfl (z2z r m.length j J) (λi n d B h=>by rw [h.1];rfl) ⟨[],?_⟩ rfl ?_ ?_ ?_
 . rw [K,show List.drop (0+8) _=([]:List Int) from rfl,Ac];rfl
 . rintro i _ d B E ⟨G,rfl⟩ ⟨rfl,rfl⟩ N L;letI:Ghost:=pinG noFG N;rw [Ac];refine uQ 600 _ ?_;simp only [putL,Bx];with_reducible refine sxaE ?_
   letI:Ghost:=pinG noFG L;refine aQ ?_;have a:(blkAt (padT r m.length) i).length=64:=z2d (z1M r m.length) E;refine eQ [1] (add_c (blkAt (padT r m.length) i) _ a (q1y e _ i)) ?_;exact ⟨G,rfl⟩
 . rintro D _ ⟨G,rfl⟩;letI:Ghost:=topG noFG [D];have F:=q1y e (padT r m.length) (blksN r);have hfl:=F.1;generalize foldB st (padT r m.length) (blksN r)=h at*;refine gQ ?_;have p:List.take 8 h=h:=Ab (by omega);rw [p];refine ⟨by omega,q0a (j0e h F) ?_⟩;have a:=q1O h;refine gy1 a ?_;rw [C]
 rintro D i ex _ E h;exact h.elim
variable {h n:Nat}
def z8b{k N:Nat}{t e:Ty}{x:t.den}{ys:List e.den}(d:t.arrAt x k=some ⟨e,N,ys⟩)(a:t≠e)(hn:n=N)(hl:ys.length=n)(j:n<=1125899906842624):Bor h t [x] (.csl h e k 0 n) (.isl e ys):=by refine .csl (p:=0+n<=N) ?_ (by omega) j;simp only [ownPart];rw [dif_neg a];simp only [d,dite_true,cast_eq,Ap];rw [Ab (by omega)]
def j6t{t:Ty}{xs:List t.den}(hl:xs.length=n):Bor h t xs (.osl h t 0 n) (.isl t xs):=by have:=Bor.osl (h:=h) (t:=t) (xs:=xs) (off:=0) (n:=n) (by omega);rwa [Ap,Ab (by omega)] at this
theorem z5X{xs:List UInt8}(a:xs.length=n)(d:0<n):Bor h .u8 xs (.rptr h .u8 0 0) (.iptr (.arr n .u8) xs 0):=by subst a;exact .ptr (.inr ⟨rfl,rfl,rfl,d,.rfl⟩)
theorem j4k{t:Ty}{x:t.den}(a:t.get x 0 t.size=some ⟨t,x⟩):Bor h t [x] (.rptr h t 0 0) (.iptr t x 0):=.ptr (.inl ⟨x,rfl,by rw [BY];exact a⟩)
theorem j5q(w:List UInt8)(c:UInt8)(_hw:w.length=64):PC Tryz.prog 275 [.raw (.int .u8 c.toNat),.iptr (.arr 64 .u8) w 0] (.dat (.arr 64 .u8) (hkP w c 64)):=by
 refine q0q rfl rfl ?_;refine rQ fi275 ?_;refine q0m (ι:=Nat) (λi=>[(7,rI i)]) (λi=>[.row .u8 (hkP w c i)]) (λi=>64-i) (λi=>i<=64) 0 (Ak _) (by rw [j3f];first|done|rfl) ?_ ?_
 . with_reducible refine sxE ?_;trivial
 intro i hi;have o:=wsx i (by omega);have d:=z1Q w c i;by_cases a:i<64
 . have j:=xor8 (w.getD i 0) c;refine gyd3 d j Ai ?_;refine ⟨λ_=>⟨⟨by omega,a⟩,⟨by omega,a⟩,⟨a,by rw [UInt8.ofNat_toNat]⟩,i+1,a,by dsimp only;omega,?_,?_⟩,λh=>absurd h (by omega)⟩
   . rw [AR,j7J w c a]
   with_reducible refine sx1 o ?_;trivial
 obtain rfl:i=64:=by omega
 refine gy2 d Ai ?_;refine ⟨λh=>absurd h (by omega),λ_=> ?_⟩;have e:List.take 64 (hkP w c 64)++List.drop (List.take 64 (hkP w c 64)).length (hkP w c 64)=hkP w c 64:=by rw [Ab (by omega),d,A6 (by omega),Ac]
 rw [e,if_pos d];exact ⟨_,rfl,rfl⟩
def hz0:HaD:=(List.replicate 8 0,List.replicate 64 0,0)
def z1H:HRep [] hz0:=j2I
def j7K(o i:List UInt8)(x:HaD)(rd:Bool)(a:i.length=64):PE Tryz.prog 276 [.rptr 0 MH 0 0] [.row MH [((o,i),(x,rd))]] (.ret (.dat HH (wrS [] hz0 i))) [.row MH [((o,i),(x,rd))]]:=by refine q0b (Ae _) ?_;refine rQ fi276 ?_;refine ⟨⟨by decide,by decide⟩,?_⟩;refine q0j [1,0] (z4L (t:=MH) (xs:=[((o,i),(x,rd))]) (z4a [] i hz0 z1H (by simp;omega)) rfl rfl rfl rfl (by simp) (.cons (.keep rfl) (.cons (z8b rfl (by decide) rfl a (by decide)) .nil))) rfl (by decide) (by repeat first|exact trivial|exact rfl|refine And.intro ?_ ?_) rfl rfl ?_;simp only [afterO,Out.ren,SV.ren,mgA,sig,SObj.ren,SV.renL,List.set,List.map,Ac,Az,Ar];refine gQ ?_;trivial
theorem j3U(o i d:List UInt8)(x:HaD)(rd:Bool)(w:o.length=64)(u:d.length=32):PE Tryz.prog 278 [.rptr 0 MH 0 0,.dat (.arr 32 .u8) d] [.row MH [((o,i),(x,rd))]] (.ret (.dat (.arr 32 .u8) (shaS (o++d)))) [.row MH [((o,i),(x,rd))]]:=by refine q0b (Ae _) ?_;refine rQ fi278 ?_;refine ⟨⟨by decide,by decide⟩,?_⟩;refine q0j [3,0] (z4L (t:=MH) (xs:=[((o,i),(x,rd))]) (z4a [] o hz0 z1H (by simp;omega)) rfl rfl rfl rfl (by simp) (.cons (.keep rfl) (.cons (z8b rfl (by decide) rfl w (by decide)) .nil))) rfl (by decide) (by repeat first|exact trivial|exact rfl|refine And.intro ?_ ?_) rfl rfl ?_;simp only [afterO,Out.ren,SV.ren,mgA,sig,SObj.ren,SV.renL,List.set,List.map,Ac,Az,Ar];have a:HRep o (wrS [] hz0 o):=z1L z1H;have j:HRep (o++d) (wrS o (wrS [] hz0 o) d):=z1L a;generalize wrS [] hz0 o=r at*;generalize z:wrS o r d=y at*;have p:=z▸z4a o d r a (by omega);refine gQ ?_;refine ⟨⟨by decide,by decide⟩,?_⟩;refine q0j [3,1] (z4L (t:=.u8) (xs:=d) p (by simp only [As,BG]) rfl rfl rfl (by omega) (.cons (.keep rfl) (.cons (j6t u) .nil))) rfl (by decide) (by repeat first|exact trivial|exact rfl|refine And.intro ?_ ?_) rfl rfl ?_;simp only [afterO,Out.ren,SV.ren,mgA,sig,SObj.ren,SV.renL,List.set,List.map,Ac,Az,Ar];refine gQ ?_;refine q0j [3] (q7C (t:=HH) (xs:=[y]) (j5O (o++d) y j (by simp;omega)) rfl (by simp) (.cons (j4k rfl) .nil)) rfl (by decide) (by repeat first|exact trivial|exact rfl|refine And.intro ?_ ?_) rfl rfl ?_;simp only [afterO,Out.ren,SV.ren,mgA,sig,SObj.ren,SV.renL,List.set,List.map,Ac,Az,Ar];have e:(shaS (o++d)).length=32:=q1O _;refine gy1 e ?_;trivial
def padK(k:List UInt8):List UInt8:=hkC k++List.replicate (64- (hkC k).length) 0
def j5Y(k:List UInt8):(hkC k).length<=64:=by
 unfold hkC;split
 . have:(shaS k).length=32:=q1O _;omega
 omega
def j4I(k:List UInt8):(padK k).length=64:=by have:=j5Y k;unfold padK;rw [Aa,BT];omega
theorem z8d(k:List UInt8)(c:UInt8):hkP (padK k) c 64=hkS k c:=by
 unfold hkS hkP;apply Bn;intro i d;have a:i<64:=BQ.1 d;rw [if_pos a,if_pos a];congr 1;unfold padK;rw [Ad,Ad];rcases AN i (hkC k).length with h|h
 . rw [Ay h]
 rw [AU h,List.getElem?_eq_none h,List.getElem?_replicate];split<;>rfl
def macI(k:List UInt8):(List UInt8×List UInt8)×(HaD×Bool):=((hkS k 92,hkS k 54),(wrS [] hz0 (hkS k 54),true))
theorem j7V{ty:Ty}{x:ty.den}{v:Value}{H':List SObj}(hH:H'[h]?=some (.row ty [x])):Weak 0 (λo' H''=>o'= .ret (.tup [.rptr 0 ty 0 0,.raw v])/\H''= [.row ty [x]]) (.ret (.tup [.rptr h ty 0 0,.raw v])) H':=
 ⟨λ_=>h,.tup [.rptr 0 ty 0 0,.raw v],.tup [.rptr 0 ty 0 0,.raw v],[.row ty [x]],⟨⟨rfl,trivial⟩,⟨hH,trivial⟩,rfl,rfl,rfl,rfl,Ak _,λ_ h0=>absurd h0 (BZ 0)⟩,.inl (.inl rfl),⟨rfl,rfl⟩⟩
abbrev HTT:Ty:=HH 
abbrev MTT:Ty:=MH 
theorem k0i(k:List UInt8)(hk:k.length<=64):PE Tryz.prog 251 [.isl .u8 k] [] (.ret (.tup [.rptr 0 MH 0 0,rI 0])) [.row MH [macI k]]:=by
 have c1:(4096< (k.length:Int))=False:=eq_false (by omega);have c2:(64< (k.length:Int))=False:=eq_false (by omega);have j:hkC k=k:=if_neg (by omega);have o:min k.length 64=k.length:=by omega
 have d:=j4I k;refine z8u ?_;refine q2i fi251 ?_;refine uQ 600 _ ?_;simp (maxSteps:=3000000) only [c1,c2,o,Aw,go_sem,↓zA,↓reduceIte,↓reduceDIte] <;>try simp only [zB]
 have e:∀l,l=List.replicate 64 (0:UInt8)->k++List.drop (0+k.length) l=padK k:=λl p=>by subst p;unfold padK;rw [j,Ai,List.drop_replicate]
 rw [e]
 case a=>rfl
 refine ⟨⟨by decide,by decide⟩,by omega,?_⟩;refine q0j [0] (q7C (t:=.u8) (xs:=padK k) (j5q (padK k) 92 d) rfl (by omega) (.cons (.keep rfl) (.cons (z5X d (by decide)) .nil))) rfl (by decide) (by repeat first|exact trivial|exact rfl|refine And.intro ?_ ?_) rfl rfl ?_;simp only [afterO,Out.ren,SV.ren,mgA,sig,SObj.ren,SV.renL,List.set,List.map,Ac,Az,Ar];refine gQ ?_;refine q0j [0] (q7C (t:=.u8) (xs:=padK k) (j5q (padK k) 54 d) rfl (by omega) (.cons (.keep rfl) (.cons (z5X d (by decide)) .nil))) rfl (by decide) (by repeat first|exact trivial|exact rfl|refine And.intro ?_ ?_) rfl rfl ?_;simp only [afterO,Out.ren,SV.ren,mgA,sig,SObj.ren,SV.renL,List.set,List.map,Ac,Az,Ar];rw [z8d,z8d];refine gQ ?_;refine eQ [1] (j7K (hkS k 92) (hkS k 54) _ true (z1Q _ _ _)) ?_;exact j7V rfl
def j3b(m b:List UInt8)(a:List UInt8×List UInt8)(x:HaD)(e:HRep m x)(d:m.length+b.length<=70368744177664):PE Tryz.prog 252 [.rptr 0 MH 0 0,.isl .u8 b] [.row MH [(a,(x,true))]] (.ret (rI 0)) [.row MH [(a,(wrS m x b,true))]]:=by refine q0b (Ae _) ?_;refine rQ fi252 ?_;refine eQ [0] (j1V m b x a true e d) ?_;trivial
def k0n(m:List UInt8)(o i:List UInt8)(x:HaD)(u:HRep m x)(p:m.length<=70368744177664)(j:o.length=64):PE Tryz.prog 253 [.rptr 0 MH 0 0] [.row MH [((o,i),(x,true))]] (.ret (.tup [.dat (.arr 32 .u8) (shaS (o++shaS m)),rI 0])) [.row MH [((o,i),(x,true))]]:=by
 have a:(shaS m).length=32:=q1O _;have d:(shaS (o++shaS m)).length=32:=q1O _;have r:RLies MTT [((o,i),(x,true))] (0*MTT.size+128) HTT x:=.inl ⟨_,rfl,rfl⟩;refine q0b (Ae _) ?_;refine q2i fi253 ?_;refine uQ 21 _ ?_;with_reducible refine sxE ?_
 refine q1B [0] mixed ?_;refine gQ ?_;refine q0v [0] (q7C (t:=MTT) (xs:=[((o,i),(x,true))]) (j5O m x u p) rfl (by simp) (.cons (.ptr r) .nil)) rfl (by decide) (by repeat first|exact trivial|exact rfl|refine And.intro ?_ ?_) rfl rfl (λh e=> ?_) ?_
 . obtain rfl:h=0:=by simpa using e
   rfl
 simp only [afterR,Out.ren,SV.ren,mgA,sig,SObj.ren,SV.renL,List.set,List.map,Ac,Az,Ar];refine gy1 a ?_;refine q0v [0] (j3U o i (shaS m) x true j a) rfl (by decide) (by repeat first|exact trivial|exact rfl|refine And.intro ?_ ?_) rfl rfl (λh e=> ?_) ?_
 . obtain rfl:h=0:=by simpa using e
   rfl
 simp only [afterR,Out.ren,SV.ren,mgA,sig,SObj.ren,SV.renL,List.set,List.map,Ac,Az,Ar];refine gy1 d ?_;trivial
def hmS(k b:List UInt8):List UInt8:=shaS (hkS k 92++shaS (hkS k 54++b))
def q3a(k b:List UInt8):(hmS k b).length=32:=q1O _
def mWr(k:List UInt8)(ps:List (List UInt8)):Nat->HaD
 |0=>wrS [] hz0 (hkS k 54)
 |i+1=>wrS (hkS k 54++(ps.take i).flatten) (mWr k ps i) (ps.getD i [])
theorem q4q{ps:List (List UInt8)}(h:i<ps.length):(ps.take (i+1)).flatten=(ps.take i).flatten++ps.getD i []:=by rw [List.take_succ_eq_append_getElem h,BD,BO,Ad,Af h];rfl
def j1B(k:List UInt8)(ps:List (List UInt8)):∀i,i<=ps.length->HRep (hkS k 54++(ps.take i).flatten) (mWr k ps i)
 |0,_=>by have:=z1L (b:=hkS k 54) z1H;simpa [mWr] using this
 |i+1,hi=>by have:=z1L (b:=ps.getD i []) (j1B k ps i (by omega));rw [List.append_assoc,<-q4q (by omega)] at this;exact this
def q1A:∀ (ps:List (List UInt8)) (i:Nat),(ps.take i).flatten.length<=ps.flatten.length
 | [],i=>by simp
 |p :: ps,0=>by simp
 |p :: ps,i+1=>by simp only [BE,Al,Aa];have:=q1A ps i;omega
theorem j5z(k:List UInt8)(ps:List (List UInt8))(r:k.length<=64)(hp:ps.flatten.length<=1099511627776)(hpl:ps.length<=1099511627776):PC Tryz.prog 233 [.isl .u8 k,.isl (.slice .u8) ps] (.tup [.dat (.arr 32 .u8) (hmS k ps.flatten),rI 0]):=by
 refine q0q rfl rfl ?_;refine q2i fi233 ?_;refine gQ ?_;refine eQ [] (k0i k r) ?_;refine q0m (ι:=Nat) (λi=>[(21,rI i)]) (λi=>[.row .u8 (List.replicate 32 0),.row MH [((hkS k 92,hkS k 54),(mWr k ps i,true))]]) (λi=>ps.length-i) (λi=>i<=ps.length) 0 (Ak _) rfl ?_ ?_
 . with_reducible refine sxE ?_;trivial
 intro i u;have a:=j1B k ps i u;have p:=wsx i (by omega);have hfl:=q1A ps i;have hil:(hkS k 54).length=64:=z1Q _ _ _;by_cases h:i<ps.length
 . have j:=q4q h;have d:=q1A ps (i+1);rw [j,Aa] at d;refine gQ ?_;refine ⟨λ_=>⟨⟨by omega,h⟩,?_⟩,λo=>absurd h o⟩;refine eQ [1] (j3b (hkS k 54++(ps.take i).flatten) (ps.getD i []) (hkS k 92,hkS k 54) _ a (by rw [Aa];omega)) ?_;refine ⟨i+1,h,by dsimp only;omega,rfl,?_⟩;with_reducible refine sx1 p ?_;trivial
 obtain rfl:i=ps.length:=by omega
 rw [Aw] at a;have e:(shaS (hkS k 92++shaS (hkS k 54++ps.flatten))).length=32:=q1O _;refine gQ ?_;refine ⟨λo=>absurd o (by omega),λ_=> ?_⟩;refine q0j [1] (k0n (hkS k 54++ps.flatten) (hkS k 92) (hkS k 54) _ a (by rw [Aa];omega) (z1Q _ _ _)) rfl (by decide) (by repeat first|exact trivial|exact rfl|refine And.intro ?_ ?_) rfl rfl ?_;simp only [afterO,Out.ren,SV.ren,mgA,sig,SObj.ren,SV.renL,List.set,List.map,Ac,e];refine gy1 e ?_;rfl
def four(n:Nat):List UInt8:=[UInt8.ofNat (n / 2^ 24%256),UInt8.ofNat (n / 2^ 16%256),UInt8.ofNat (n / 2^ 8%256),UInt8.ofNat (n / 2^ 0%256)]
theorem j3Q(n:Nat):(four n).length=4:=rfl
def fdivN(n m:Nat)(a:m<=64):((n:Int).fdiv (2^ min m 64))=((n / 2^ m:Nat):Int):=by rw [B5 a,Bq _ (by exact_mod_cast Ak (2^ m))];simp
def byteN(n m:Nat)(a:m<=64):UInt8.ofNat (IntKind.u8.wrap ((n:Int).fdiv (2^ min m 64))).toNat=UInt8.ofNat (n / 2^ m%256):=by rw [fdivN n m a];generalize n / 2^ m=m;rw [u8wrapR];congr 1
def byteN0(n:Nat):UInt8.ofNat (IntKind.u8.wrap (n:Int)).toNat=UInt8.ofNat (n / 2^ 0%256):=by rw [Nat.pow_zero,Nat.div_one,u8wrapR];congr 1
theorem j5l(n:Nat):PC Tryz.prog 234 [rI n] (.isl .u8 (four n)):=by refine q0f rfl rfl ?_;refine rQ fi234 ?_;refine ⟨⟨q3n _,q3n _,q3n _,q3n _⟩,?_⟩;rw [byteN _ 24 (by decide),byteN _ 16 (by decide),byteN _ 8 (by decide),byteN0];rfl
def j8n(n:Nat)(a:List (List UInt8))(h1:1<=n)(h2:n<=1024)(o:∀l∈a,l.length<=4096)(hn:a.length<=100):PC Tryz.prog 214 [rI n,.isl (.slice .u8) a] (rB true):=by
 refine q0q rfl rfl ?_;refine rQ fi214 ?_;refine q0m (ι:=Nat) (λi=>[(9,rI i)]) (λi=>[]) (λi=>a.length-i) (λi=>i<=a.length) 0 (Ak _) rfl ?_ ?_
 . with_reducible refine sxE ?_;trivial
 intro i hi;have j:=wsx i (by omega);by_cases h:i<a.length
 . have hli:(a.getD i []).length<=4096:=by rw [Ad,Af h];exact o _ (Bu _)
   have e:(4096< (((a.getD i (Ty.dflt (.slice .u8))).length:Nat):Int))=False:=eq_false (by show ¬(4096< (((a.getD i []).length:Nat):Int));omega);refine gy1 e ?_;refine ⟨λ_=>⟨⟨by omega,h⟩,i+1,h,by dsimp only;omega,rfl,?_⟩,λd=>absurd h d⟩;with_reducible refine sx1 j ?_;trivial
 obtain rfl:i=a.length:=by omega
 refine gQ ?_;exact ⟨λd=>absurd d (by omega),λ_=>⟨λ_=>by omega,λd=>absurd d (by omega)⟩⟩
abbrev derT:Ty:=.prod (.slice .u8) (.prod (.slice .u8) (.prod (.slice .u8) (.int .i64)))
def kblk(key label ctx:List UInt8)(n i:Nat):List UInt8:=hmS key (four i++label++ [0]++ctx++four (8*n))
def q7M(key label ctx:List UInt8)(n i:Nat):(kblk key label ctx n i).length=32:=q3a _ _
theorem j3Z(key a d:List UInt8)(n i:Nat)(w:key.length<=64)(hl:a.length<=4096)(hc:d.length<=4096)(hn:n<=1024)(hi:i<=1000000):PC Tryz.prog 217 [.agg [.isl .u8 key,.isl .u8 a,.isl .u8 d,rI n],rI i] (.dat (.arr 32 .u8) (kblk key a d n i)):=by
 have u:IntKind.i64.wrap (8* (n:Int))=((8*n:Nat):Int):=by rw [wrapi (by omega)];omega
 refine q0q rfl rfl ?_;refine ry1 fi217 u ?_;refine q0i (j5l i) ?_;refine gQ ?_;refine q0i (j5l (8*n)) ?_;refine gQ ?_;have e:[four i,a,[UInt8.ofNat 0],d,four (8*n)].flatten=four i++a++ [0]++d++four (8*n):=by simp
 have o:[four i,a,[UInt8.ofNat 0],d,four (8*n)].flatten.length<=1099511627776:=by rw [e];simp only [Aa,j3Q,As,BG];omega
 have j:=j5z key [four i,a,[UInt8.ofNat 0],d,four (8*n)] w o (by simp);rw [e] at j;have p:=q7M key a d n i;change PC _ _ _ (.tup [.dat (.arr 32 .u8) (kblk key a d n i),_]) at j;generalize kblk key a d n i=kb at*;refine ⟨by decide,q0i j ?_⟩;have r:List.take 32 kb=kb:=Ab (by omega);refine gy2 p r ?_;trivial
set_option maxHeartbeats 4000000
def allN(n:Nat)(q:Nat->Bool):Bool:=(List.range n).all q
variable {q:Nat->Bool}
theorem q2J:allN n q=true ↔ ∀j,j<n->q j=true:=by simp [allN]
theorem q0w(h:i<n)(hq:q i=false):allN n q=false:=by rw [Bool.eq_false_iff];grind [q2J]
def q0x(h:∀j,j<n->q j=true):allN n q=true:=q2J.2 h
@[go_sem] def fnV(f:Nat):Value:=.func (.func f) #[] #[]
def name1:ByteArray:=⟨#[97,101,115,49,50,56,45,99,116,115,45,104,109,97,99,45,115,104,97,50,53,54,45,49,50,56]⟩
def name2:ByteArray:=⟨#[115,116,114,101,97,109,45,104,109,97,99,45,115,104,97,50,53,54,45,50,53,54]⟩
def kind1:List Value:=[.string name1,.int .i64 16,.int .i64 16,.int .i64 16,.int .i64 16,fnV 206,fnV 207,fnV 208]
attribute [go_sem] kind1
def kind2:List Value:=[.string name2,.int .i64 32,.int .i64 16,.int .i64 32,.int .i64 32,fnV 209,fnV 210,fnV 211]
attribute [go_sem] kind2
abbrev kindsM:SV:=.imap (some .i64) [.int .i64 1,.int .i64 2] [.agg kind1.toArray,.agg kind2.toArray]

theorem j8q:PC Tryz.prog 180 [] kindsM:=by refine q0q rfl rfl (j7I ?_);refine rQ fi180 ?_;exact ⟨_,_,[.agg kind1.toArray,.agg kind2.toArray],[],rfl,rfl⟩

def keyLen(p:Int):Int:=if p=1 then 16 else if p=2 then 32 else 0
def kindZ:List Value:=[.string ⟨#[]⟩,.int .i64 0,.int .i64 0,.int .i64 0,.int .i64 0,.nilFunc,.nilFunc,.nilFunc]
attribute [go_sem] kindZ
def kindOf(p:Int):List Value:=if p=1 then kind1 else if p=2 then kind2 else kindZ
def vKey(k:Key):Bool:=decide (keyLen k.1≠0) && (decide ((k.2.2.length:Int)=keyLen k.1) && (decide (0<=k.2.1) && decide (k.2.1<=65535)))
theorem j5D(k:Key):PC Tryz.prog 118 [.agg (KeyT.cells k)] (.tup [.agg (rawL (kindOf k.1)),rB (vKey k)]):=by
 obtain ⟨p,v,b⟩:=k;refine q0q rfl (by simp [SV.clean,SV.cleanL,q5m]) ?_;refine rQ fi118 ?_;refine q0i j8q ?_;by_cases a:p=1
 . subst a;refine uQ 600 _ ?_;simp (maxSteps:=3000000) only [kind1,kindOf,vKey,keyLen,go_sem,↓zA,↓reduceIte,↓reduceDIte] <;>try simp only [zB]
   grind
 by_cases d:p=2
 . subst d;refine uQ 600 _ ?_;simp (maxSteps:=3000000) only [kind2,kindOf,vKey,keyLen,go_sem,↓zA,↓reduceIte,↓reduceDIte] <;>try simp only [zB]
   grind
 refine uQ 600 _ ?_;simp (maxSteps:=3000000) only [a,d,kindOf,kindZ,vKey,keyLen,go_sem,↓zA,↓reduceIte,↓reduceDIte] <;>try simp only [zB]
 grind
end Go.Proofs.YthbcodbcndiapaaGreatDoor
namespace Go.Sx
open Go

variable {P:Program} {AQ:Ex->List SV->List SObj->Prop} {k0:Nat} {k:List IT} {t:List SV} {H:List SObj}
variable {g:FG} {Ds:List Nat}

def mvL(h:Nat):List SV->List SV
 | []=>[]
 |.ptr x o :: l=>(if x=h then .ptr 1 o else .any) :: mvL h l
 |s :: l=>(if s.clean then s else .any) :: mvL h l
theorem j1R{C C':Cx}{h b:Nat}(j:Keeps C.I C'.I C.w C'.w)(u:1<C'.n)(p:C.ρ h=some b)(a:C'.ρ 1=some b):∀ {l:List SV} {vs:List Value},SV.denL C l vs->SV.denL C' (mvL h l) vs
 | [],_,d=>d
 |s :: l,vs,d=>by
  obtain ⟨v,us,rfl,d1,e⟩:=q0c.1 d;have d2':=j1R j u p a e;have r:SV.den C' (if s.clean then s else .any) v:=by grind [q0J,SV.den]
  cases s with
  |ptr x o=>refine q0c.2 ⟨v,us,rfl,?_,d2'⟩;grind [SV.den]
  |_=>exact q0c.2 ⟨v,us,rfl,r,d2'⟩
theorem z9o{h:Nat}{T:TypeId}{cs N:List SV}(a:H[h]?=some (.cells T cs))(Z:SV.cleanL cs=true):Hand 1 H (H.set h .dead) N (mvL h N) [.cells T cs]:=by
 intro C Cc Hc vs D Y A W r O z;obtain ⟨V,g2⟩:=z3X D h a rfl;obtain ⟨b,us,u,hcl,Q⟩:=D.obj _ _ a;have F:Keeps C.I Cc.I C.w Cc.w:=λb u=>⟨(O b).2 u,by rw [r]⟩
 have d:OwnB C H b:=⟨h,_,a,rfl,u⟩;have p:∀b,OwnB C (H.set h .dead) b->OwnB C H b:=λE ⟨x,o,G,J,K⟩=>by
  by_cases e:h=x
  . simp_all
  exact ⟨x,o,by simp_all,J,K⟩
 have hnot:¬OwnB C (H.set h .dead) b:=by
  rintro ⟨x,o,G,J,K⟩;by_cases e:h=x
  . grind [SObj.live]
  rw [AX e] at G;exact e (D.inj _ _ _ o b a G rfl J u K)
 have hn1:Cc.n=1:=by rw [A.n,W]
 let B:Cx:={Cc with ρ:=(λh=>if h=Cc.n then some b else Cc.ρ h),n:=Cc.n+1}
 have j:Keeps C.I B.I C.w B.w:=F
 obtain ⟨R,X,U⟩:=z5a A (some b) (.cells T cs) (λE e=>by
  cases e
  exact ⟨λx=>(D.own b d).1 ((O b).1 x),by grind,z b d⟩) B rfl ⟨b,us,if_pos rfl,by grind,q1J (C:=C) j Z Q⟩
 exact ⟨C,B,rfl,rfl,V,Evo.refl _,p,r,rfl,R,X,j1R (C:=C) j (by grind) u (by grind) Y,λE L=>orMap (U E L) id λe=>by simp_all⟩
variable {f:FuncId}
theorem k0F{r:FI}{args:List SV}{K:Out->List SObj->Prop}(h:finfo P f=some r)
 (R: @SoundI (freG noFG []) P (retF P r.results K) ⟨0,[.ic r.code],args++List.replicate (r.ntmps-args.length) .any,[]⟩):VC P f args [] K:=by
 obtain ⟨fn,c,N,d,W,L,G,A⟩:=j5t h;have I:retQ P fn K=retF P r.results K:=by rw [<-G];funext e t H;rfl
 refine q4t ⟨A,?_⟩;rintro E C vs p ⟨D,S,j⟩ V;have a:∀b,¬S b:=j
 refine (@q5j (freG noFG []) P [] f fn c args K (startE false S C []) C vs N d rfl (by show C.n<=_;rw [p.n];omega) p (q4E p.n) ⟨⟨D.tab,D.tab.lt⟩,⟨⟨S,a⟩,CZ,λ_ h=>by simp at h⟩,λb d=>((q0P p.n).1 d).elim z0H λx=>a b x.1⟩
  (λ_ _=>True) ?_ V ?_).mono ?_
 . rintro C' H' ds hw' hx' ⟨Ds',e,⟨S',hc'⟩,u,w⟩;rw [Ac] at u w;exact ⟨Ds',by rw [e];exact Ac _,u,w,trivial⟩
 . rw [I,L];exact @q0g (freG noFG []) P (retF P r.results K) _ _ _ _ _ R ⟨c,[],rfl,W,rfl⟩
 rintro e w' ⟨o,H',C',F,U,J,B,_,O⟩;exact ⟨o,H',C',F,U,J, @Stp.mk (fgG noFG) E C [] C' H' (q3J B.evo) (λk=>q8Z p k (λb d=>absurd d (a b)) (λQ=>by cases Q) B) (λz=>⟨⟨(q6w p.n z.1.tab λb d=>absurd d (a b)).next B,z.1.old⟩,S,a⟩),O⟩
def k0w{gop:Operand}{ps:Array Tmp}{asg body:IC}{fi ca:List SV}{N:Nat}{vw:Nat->Nat->List SV->List SObj->Prop}(h:Nat)(T:TypeId)(cs:List SV)(Hs:Nat->List SObj->Prop)(X:Nat->Ex->List SObj->Prop)
 (hcell:H[h]?=some (.cells T cs))(hcs:SV.cleanL cs=true)(hgop:evT t gop= .fn f fi ca)(hfi:SV.cleanL fi=true)(hit:IterO False P f fi (mvL h ca) [.cells T cs] N vw)(hlen:∀i n args' new,vw i n args' new->args'.length=ps.size)(hmk:∀n,H[0]?≠some (.mark n))(h0:Hs 0 (H.set h .dead))(hns:noStopI k=true)
 (hround:∀i Hi args' new,i<N->Hs i Hi->vw i Hi.length args' new->∀L1 L2, @SoundI (pinG g L1) P (λ_ _ _=>False)
  ⟨(Hi++new).length,[.ic asg,.stop λt' H'=> @SoundI (pinG g L2) P (RQ Hs X i) ⟨H'.length,[.ic body],t',H'⟩],putL ps.toList args' t,Hi++new⟩)
 (hdone:∀D Hn,Hs N Hn-> @SoundI (topG g (D :: Ds)) P AQ ⟨k0,k,t,Hn⟩)(hstop:∀D i ex Hn,i<N->X i ex Hn->RfStopI g P AQ k0 k t (D :: Ds) ex Hn):
 @SoundI (freG g Ds) P AQ ⟨k0,.ic (.rf gop ps asg body) :: k,t,H⟩:=
 j5N (G0:=freG g Ds) (inf:=False) Hs X (λh=>⟨h.1,.inr h.2⟩) (λh=>h) (λ_ h=>h) hgop hfi (z9o hcell hcs) (λn hn=>absurd hn (hmk n)) hit (λh=>h.elim) hlen h0 hns hround hdone hstop
end Go.Sx
namespace Go.Proofs.YthbcodbcndiapaaGreatDoor
open Go Go.Sx Go.Proofs
set_option maxRecDepth 100000
set_option maxHeartbeats 4000000
def szB(s:ByteArray):Bool:=decide (1<=(s.size:Int)) && decide ((s.size:Int)<=32)
theorem k1j(s:ByteArray):PC Tryz.prog 178 [rS s] (rB (szB s)):=by refine q0q rfl rfl ?_;refine rQ fi178 ?_;grind [szB]
theorem k0j(s:ByteArray):PC Tryz.prog 240 [rS s,rS ⟨#[46]⟩] (rI (Lib.indexByte s.data.toList 46)):=by
 refine j4T (vs:=[.string s,.string ⟨#[46]⟩]) (by kernel_rfl) λw=> ?_;have j (w:World):Calls Tryz.prog 257 #[.string s,.int .u8 46] w λe w'=>e= .returned (.int .i64 (Lib.indexByte s.data.toList 46))/\w'=w:=by go_enter Tryz.func257,Tryz.ntmps257;go_wp2;rw [run_callFunc_extern Tryz.func280 (by kernel_rfl) (by kernel_rfl) (by kernel_rfl) (e:=Extern.BytealgIndexByte.indexByte) (by kernel_rfl),Lib.run_indexByteString];simp only [Result.andThen];rw [Oper.upon_value];go_wp2;go_ret;exact ⟨rfl,rfl⟩
 by_cases a:s=⟨#[46]⟩
 . subst a;go_enter Tryz.func240,Tryz.ntmps240;go_wp2;go_ret;exact ⟨by rfl,RowKit.Below.refl _ _⟩
 have hne:([46]==s.toList)=false:=by rw [beq_eq_false_iff_ne];intro h;have d:s.toList=(⟨#[46]⟩:ByteArray).toList:=h.symm.trans (by rw [ByteArray.toList_eq]);rw [ByteArray.toList_eq,ByteArray.toList_eq] at d;exact a (ByteArray.ext (Array.toList_inj.1 d))
 go_enter Tryz.func240,Tryz.ntmps240
 go_wp2_with (go_at_call 257;refine (j _).mono ?_;rintro e w' ⟨rfl,rfl⟩)
 go_ret;exact ⟨rfl,RowKit.Below.refl _ _⟩
def k1O(s:ByteArray):PC Tryz.prog 227 [rS s,rS ⟨#[46]⟩] (rI (Lib.indexByte s.data.toList 46)):=by refine q0q rfl rfl ?_;refine rQ fi227 ?_;refine cQ (k0j s) ?_;trivial

variable {α:Type}{l:List α}
theorem z8j{d:α}{j:Nat}(h:j<l.length):l.getD j d=l[j]:=by rw [Ad,Af h];rfl
def z0T{d:α}{q:α->Bool}:allN l.length (λj=>q (l.getD j d))=l.all q:=by
 rw [B3,q2J,Br];constructor
 . intro h x e;obtain ⟨j,a,rfl⟩:=AS e;have:=h j a;rwa [z8j a] at this
 intro h j a;exact h _ (q1z a)
def splitGo:List UInt8->List UInt8->List (List UInt8)
 |cur,[]=>[cur.reverse]
 |cur,c :: cs=>if c==46 then cur.reverse :: splitGo [] cs else splitGo (c :: cur) cs
def splitDot(l:List UInt8):List (List UInt8):=splitGo [] l
def q7j:∀ (l a:List UInt8),Lib.indexByte l 46= -1->splitGo a l= [a.reverse++l]
 | [],a,_=>by simp [splitGo]
 |c :: l,a,h=>by
  unfold Lib.indexByte at h;by_cases e:(c==46)=true
  . rw [if_pos e] at h;omega
  have hg:=Lib.indexByte_ge l 46;rw [if_neg e] at h;have j:Lib.indexByte l 46= -1:=by
   by_cases d:(Lib.indexByte l 46== -1)=true
   . simpa using d
   rw [if_neg d] at h;simp at d;omega
  unfold splitGo;rw [if_neg e,q7j l (c :: a) j];simp
def q7c:∀ (l a:List UInt8) (i:Nat),Lib.indexByte l 46=(i:Int)->i<l.length/\splitGo a l=(a.reverse++l.take i) :: splitGo [] (l.drop (i+1))
 | [],a,i,h=>by unfold Lib.indexByte at h;omega
 |c :: l,a,i,h=>by
  unfold Lib.indexByte at h;by_cases d:(c==46)=true
  . rw [if_pos d] at h;obtain rfl:i=0:=by omega
    refine ⟨by simp,?_⟩
    conv=>lhs;unfold splitGo
    rw [if_pos d];simp
  rw [if_neg d] at h;by_cases e:(Lib.indexByte l 46== -1)=true
  . rw [if_pos e] at h;omega
  rw [if_neg e] at h;have hg:=Lib.indexByte_ge l 46;simp at e;obtain ⟨j,rfl⟩:∃j,i=j+1:=⟨i-1,by omega⟩
  obtain ⟨h3,o⟩:=q7c l (c :: a) j (by omega);refine ⟨by simp;omega,?_⟩
  conv=>lhs;unfold splitGo
  rw [if_neg d,o];simp
def splitB(s:ByteArray):List ByteArray:=(splitDot s.data.toList).map λl=>⟨l.toArray⟩
def z3G(s:ByteArray)(h:Lib.indexByte s.data.toList 46= -1):splitB s= [s]:=by unfold splitB splitDot;rw [q7j _ _ h];simp
def z4i(s:ByteArray)(i:Nat)(h:Lib.indexByte s.data.toList 46=(i:Int)):i<s.size/\splitB s=s.extract 0 i :: splitB (s.extract (i+1) s.size):=by
 obtain ⟨a,d⟩:=q7c s.data.toList [] i h;refine ⟨by simpa using a,?_⟩;unfold splitB splitDot;rw [d,Lib.extract_data,Lib.extract_eq];have:List.take (s.size- (i+1)) (List.drop (i+1) s.data.toList)=List.drop (i+1) s.data.toList:=by rw [Ab];simp
 rw [this];simp
def realmChar(c:UInt8):Bool:=(decide (65<=c.toNat) && decide (c.toNat<=90)) || (decide (48<=c.toNat) && decide (c.toNat<=57)) ||c==45
def labelB(l:ByteArray):Bool:=decide (0<l.size) && l.data.toList.all realmChar
def realmB(s:ByteArray):Bool:=szB s&& (splitB s).all labelB

def z2U(s:ByteArray):∀x∈splitB s,x.size<=s.size:=by
 have h:∀ (l a:List UInt8),∀y∈splitGo a l,y.length<=a.length+l.length:=by
  intro l;induction l with
  |nil=>intro a y d;simp [splitGo] at d;subst d;simp
  |cons c l e=>
   intro a y d;unfold splitGo at d;split at d
   . rcases A3.1 d with rfl|d
     . simp
     have:=e [] y d;simp at this⊢;omega
   have:=e (c :: a) y d;simp at this⊢;omega
 intro x j;unfold splitB at j;obtain ⟨y,d,rfl⟩:=Bv.1 j;have:=h _ [] y d;simp at this;exact this
def vwS(s:ByteArray):Nat->Nat->List SV->List SObj->Prop:=λi _ args' new=>args'= [rS ((splitB s).getD i ⟨#[]⟩)]/\new= []
theorem z6X(s:ByteArray):PE Tryz.prog 205 [rS s,rS ⟨#[46]⟩,rI 0] [] (.ret (.fn 225 [] [.iptr .str ⟨#[46]⟩ 0,.ptr 0 0,.iptr (.int .i64) 0 0])) [.cells 9 [rS s],.dead,.dead]:=by
 refine q2i fi205 ?_;refine uQ 5 _ ?_;with_reducible refine sxE ?_
 refine q2n 4 1 (ty:=.str) (x:=⟨#[46]⟩) rfl (show (1:Nat)<=140737488355328 by decide) rfl rfl ?_;refine q2n 5 2 (ty:=.int .i64) (x:=0) rfl trivial rfl rfl ?_;refine gQ ?_;trivial
def z4s(s:ByteArray):PE Tryz.prog 179 [rS s,rS ⟨#[46]⟩] [] (.ret (.fn 225 [] [.iptr .str ⟨#[46]⟩ 0,.ptr 0 0,.iptr (.int .i64) 0 0])) [.cells 9 [rS s],.dead,.dead]:=by refine q2i fi179 ?_;refine gQ ?_;refine eQ [] (z6X s) ?_;trivial
def cutB(s:ByteArray):Nat->ByteArray
 |0=>s
 |i+1=>(cutB s i).extract ((Lib.indexByte (cutB s i).data.toList 46).toNat+1) (cutB s i).size
theorem z4K(s:ByteArray)(hs:s.size<=140737488355328):IterO False Tryz.prog 225 [] [.iptr .str ⟨#[46]⟩ 0,.ptr 1 0,.iptr (.int .i64) 0 0] [.cells 9 [rS s]] (splitB s).length (vwS s):=by
 refine ⟨by kernel_rfl,λl B J p z _=> ?_⟩;refine (q1X (yFG p) fi225 ?_).2;letI:Ghost:=topG (yFG p) [];have o:(((#[46]:Array UInt8).size:Nat):Int)=1:=rfl;refine gy1 o ?_;refine q0m (ι:=Nat) (λ_=>[]) (λi=>[.mark i,.cells 9 [rS (cutB s i)]]) (λi=>(splitB s).length-i) (λi=>(splitB s).drop i=splitB (cutB s i)/\(cutB s i).size<=s.size) 0 ⟨rfl,Ae _⟩ rfl ?_ ?_
 . with_reducible refine sxE ?_;trivial
 rintro i ⟨a,hcs⟩;have d:cutB s (i+1)=(cutB s i).extract ((Lib.indexByte (cutB s i).data.toList 46).toNat+1) (cutB s i).size:=rfl;have j:=k1O (cutB s i);have hge:=Lib.indexByte_ge (cutB s i).data.toList 46;generalize cutB s i=t at*;by_cases E:Lib.indexByte t.data.toList 46<0
 . have w:=z3G t (by omega);rw [w] at a;have e:=congrArg List.length a;simp at e;have r:(splitB s).getD i ⟨#[]⟩=t:=by have:=congrArg (λl=>l.getD 0 ⟨#[]⟩) a;simpa [Ad] using this
   refine gQ ?_;refine cQ j ?_;refine ⟨λ_=> ?_,λh=>absurd E h⟩;refine q2h [.cells 9 [rS t]] p z (i:=i) (by omega) (λn=>⟨_,_,⟨by rw [r],rfl⟩,q0S rfl⟩) λc=> ?_;cases c
   . refine gQ ?_;exact ⟨_,_,rfl,rfl,by omega⟩
   refine gQ ?_;exact ⟨_,_,rfl,rfl,by omega⟩
 obtain ⟨k,u⟩:∃k:Nat,Lib.indexByte t.data.toList 46=(k:Int):=⟨_,(Int.toNat_of_nonneg (by omega)).symm⟩
 obtain ⟨w,D⟩:=z4i t k u;rw [u] at j d;rw [D] at a;have e:=congrArg List.length a;simp at e;have r:(splitB s).getD i ⟨#[]⟩=t.extract 0 k:=by have:=congrArg (λl=>l.getD 0 ⟨#[]⟩) a;simpa [Ad] using this
 have A:(splitB s).drop (i+1)=splitB (t.extract (k+1) t.size):=by rw [<-Bf,a];rfl
 have F:IntKind.i64.wrap (k:Int)=k:=wrapi (by omega);have C:IntKind.i64.wrap ((k:Int)+1)=((k+1:Nat):Int):=q1s (by omega);refine gQ ?_;refine q0a j ?_;refine gy3 Int.add_zero F AA ?_;refine ⟨λh=>absurd h (by omega),λ_=>⟨⟨by omega,by omega⟩,?_⟩⟩;refine q2h [.cells 9 [rS t]] p z (i:=i) (by omega) (λn=>⟨_,_,⟨by rw [r],rfl⟩,q0S rfl⟩) λc=> ?_;cases c
 . refine gQ ?_;exact ⟨_,_,rfl,rfl,by omega⟩
 refine gy3 o C AA ?_;refine ⟨⟨by omega,by omega⟩,i+1,⟨?_,?_⟩,by show _- (i+1) <_-i;omega,?_,?_⟩
 . rw [A,d];rfl
 . rw [d];simp;omega
 . show _= [SObj.mark (i+1),SObj.cells _ [rS (cutB s (i+1))]];rw [d];rfl
 with_reducible refine sxE ?_;trivial
variable {c:UInt8}
def j9R{n:Nat}(hn:n<256):c=UInt8.ofNat n ↔ (c.toNat:Int)=n:=by
 have h:(UInt8.ofNat n).toNat=n:=by rw [Bl];omega
 rw [<-A5,h];omega
def q5G(c:UInt8):realmChar c=true ↔ (c.toNat:Int)=45\/(65<=(c.toNat:Int)/\(c.toNat:Int)<=90)\/(48<=(c.toNat:Int)/\(c.toNat:Int)<=57):=by have h:=j9R (c:=c) (n:=45) (by decide);simp only [realmChar,BK,Aj,decide_eq_true_eq,beq_iff_eq];have a:c=45 ↔ (c.toNat:Int)=45:=h;rw [a];omega
def rlmH:List SObj:=[.cells 4 [rB false],.dead,.dead,.dead]
def k1x(s:ByteArray)(K:s.size<=140737488355328):PC Tryz.prog 116 [rS s] (rB (realmB s)):=by
 refine q0q rfl rfl (k0F fi116 ?_);letI:Ghost:=freG noFG [];refine gQ ?_;refine cQ (k1j s) ?_;refine ⟨λh=> ?_,λh=> ?_⟩
 . rw [realmB,h];rfl
 refine q0j [] (z4s s) rfl (by decide) trivial rfl rfl ?_;simp only [afterO,Out.ren,SV.ren,mgA,sig,SObj.ren,SV.renL,List.set,List.map,Ac];refine uQ 600 _ ?_;refine k0w 1 _ _ (λi H'=>H'=rlmH/\∀j,j<i->labelB ((splitB s).getD j ⟨#[]⟩)=true) (λi ex H'=>ex= .ret/\H'=rlmH/\labelB ((splitB s).getD i ⟨#[]⟩)=false) rfl rfl rfl rfl (z4K s K) (λi n r F h=>by rw [h.1];rfl) (λn h=>by simp at h) ⟨rfl,λj G=>absurd G (BU j)⟩ rfl ?_ ?_ ?_
 . rintro i _ r F E ⟨rfl,o⟩ ⟨rfl,rfl⟩ O N;letI:Ghost:=pinG noFG O;rw [Ac];obtain ⟨x,w⟩:∃x,x=(splitB s).getD i ⟨#[]⟩:=⟨_,rfl⟩;have hxs:x.size<=s.size:=z2U s x (by rw [w];exact q1z E);rw [<-w];unfold rlmH;refine uQ 600 _ ?_;simp only [putL,Bx];with_reducible refine sxE ?_
   letI:Ghost:=pinG noFG N;refine gQ ?_;refine ⟨λA=>⟨rfl,rfl,by rw [<-w,A];rfl⟩,λA=> ?_⟩;refine z0b 16 x.size (λj=>realmChar (x.data.toList.getD j 0)=true) ?_ λk I u=> ?_
   . with_reducible refine sxE ?_;trivial
   refine gQ ?_;have p:k<x.size->¬realmChar (x.data.toList.getD k 0)=true->labelB x=false:=λa L=>by unfold labelB;rw [Cu];refine .inr (List.all_eq_false.2 ⟨_,q1z (d:=0) (i:=k) (by simpa using a),L⟩)
   have z:=q5G (x.data.toList.getD k 0);refine ⟨λa=> ?_,λhge=>⟨rfl,λj G=> ?_⟩⟩
   . have C:=wsx k (by omega);refine ⟨⟨by omega,a⟩,?_⟩;repeat' (first|apply And.intro|intro _)
     all_goals first|omega|exact rfl| (rw [<-w];exact p a (by rw [z];omega)) |refine q3P a u (by rw [z];omega) ?_
     all_goals simp (maxSteps:=3000000) only [C,go_sem,↓zA,↓reduceIte,↓reduceDIte] <;>try simp only [zB]
   by_cases B:j=i
   . subst B;rw [<-w];unfold labelB;rw [Aj,decide_eq_true_eq];refine ⟨Nat.pos_of_ne_zero λe=>A (ByteArray.ext (Bd e)),?_⟩;rw [<-z0T (d:=0)];refine q0x λk I=>u k ?_;have:x.data.toList.length=x.size:=by simp
     omega
   exact o j (by omega)
 . rintro D _ ⟨rfl,o⟩;letI:Ghost:=topG noFG [D];unfold rlmH;refine gQ ?_;rw [realmB,h,BP];rw [<-z0T (d:=⟨#[]⟩)];exact (q0x o).symm
 rintro D i ex _ E ⟨rfl,rfl,p⟩;have J:realmB s=false:=by rw [realmB,h,BP,<-z0T (d:=⟨#[]⟩)];exact q0w E p
 rw [J];unfold rlmH;show retF _ [.cell 2 4] _ .ret _ _;with_reducible refine sxE ?_;trivial
def visC(c:UInt8):Bool:=decide (33<=(c.toNat:Int)) && decide ((c.toNat:Int)<=126)
def j1J(h1:¬(c.toNat:Int) <33)(h2:¬126< (c.toNat:Int)):visC c=true:=by simp [visC];omega
def z8r(h1:(c.toNat:Int) <33):visC c=false:=by simp [visC];omega
def z9L(h1:126< (c.toNat:Int)):visC c=false:=by simp [visC];omega
def visB(s:ByteArray):Bool:=allN s.size λj=>visC (s.data.toList.getD j 0)
theorem k1z(s:ByteArray)(hs:s.size<=140737488355328):PC Tryz.prog 117 [rS s] (rB (visB s&& szB s)):=by
 refine q0q rfl rfl ?_;refine rQ fi117 ?_;refine z0b 6 s.size (λj=>visC (s.data.toList.getD j 0)=true) ?_ λi hi e=> ?_
 . with_reducible refine sxE ?_;trivial
 refine gQ ?_;refine ⟨λa=>⟨⟨by omega,a⟩,λo=>⟨⟨by omega,a⟩,λd=> ?_,λd=>q3P a e ?_ ?_⟩,λo=> ?_⟩,λhge=>q0a (k1j s) ?_⟩
 . rw [show visB s=false from q0w a (z9L d)];rfl
 . exact j1J o d
 . with_reducible refine sxE ?_
   rw [q1s (by omega)]
 . rw [show visB s=false from q0w a (z8r o)];rfl
 refine gQ ?_;rw [show visB s=true from q0x λj hj=>e j (by omega)];rfl

def fidx(l:List Bool):Int:=if l.all id then -1 else ((l.findIdx (!·):Nat):Int)
variable {l:List Bool}{i:Nat}
def j8D(a:i<l.length)(e:∀j,j<i->l.getD j false=true)(h:l.getD i false=false):fidx l=i:=by
 have r:¬l.all id=true:=λo=>by rw [Br] at o;have:=o _ (q1z (d:=false) a);rw [h] at this;cases this
 unfold fidx;rw [if_neg r,Int.ofNat_inj,List.findIdx_eq a];refine ⟨by rw [Ad,Af a] at h;simpa using h,λj p=> ?_⟩;have:=e j p;rw [Ad,Af (by omega)] at this;simpa using this
def j6v(a:∀j,j<l.length->l.getD j false=true):fidx l= -1:=by
 have e:l.all id=true:=by rw [Br];intro x o;obtain ⟨j,d,rfl⟩:=AS o;have:=a j d;rw [Ad,Af d] at this;simpa using this
 unfold fidx;rw [if_pos e]
def j3N(l:List Bool)(hl:l.length<=1125899906842624):PC Tryz.prog 204 [.isl .bool l,rB false] (rI (fidx l)):=by
 refine q0q rfl rfl ?_;refine rQ fi204 ?_;refine z0b 8 l.length (λj=>l.getD j false=true) ?_ λi hi a=> ?_
 . with_reducible refine sxE ?_;trivial
 refine gQ ?_;refine ⟨λd=>⟨⟨by omega,d⟩,λh=> ?_,λh=>q3P d a ?_ ?_⟩,λhge=> ?_⟩
 . rw [j8D d a h.symm]
 . simpa [Ty.dflt] using h
 . with_reducible refine sxE ?_
   rw [q1s (by omega)]
 rw [j6v (λj hj=>a j (by omega))]
theorem q8c(l:List Bool)(a:l.length<=1125899906842624):PC Tryz.prog 177 [.isl .bool l,rB false] (rB (!l.all id)):=by
 refine q0q rfl rfl ?_;refine rQ fi177 ?_;refine cQ (j3N l a) ?_;unfold fidx;split
 . simp_all
 rename_i h;simp [h]
def k0f(l:List Bool)(a:l.length<=1125899906842624):PC Tryz.prog 115 [.isl .bool l] (rB (l.all id)):=by refine q0q rfl rfl ?_;refine rQ fi115 ?_;refine cQ (q8c l a) ?_;simp

def vPart(s:ByteArray):Bool:=visB s&& szB s
def vPrin(p:Prin):Bool:=(decide (1<=(p.1.length:Int)) && (decide ((p.1.length:Int)<=4) && realmB p.2)) && allN p.1.length λj=>vPart (p.1.getD j ByteArray.empty)
theorem q7O(p:Prin)(e:PrinT.ok p):PC Tryz.prog 43 [.agg (PrinT.cells p)] (rB (vPrin p)):=by
 obtain ⟨l,r⟩:=p;refine q0q rfl rfl ?_;refine rQ fi43 ?_;refine cR (k1x r e.2) ?_;refine q0Z 1 (by decide) ?_;with_reducible refine sxE ?_
 refine q0d (k0f _ (by simp)) ?_;refine uQ 600 _ ?_;simp (maxSteps:=3000000) only [BA,Cq,id,go_sem,↓zA,↓reduceIte,↓reduceDIte] <;>try simp only [zB]
 refine ⟨λh=> ?_,λh=> ?_⟩
 . rw [vPrin,h];rfl
 refine z0b 22 l.length (λj=>vPart (l.getD j ByteArray.empty)=true) ?_ λi hi d=> ?_
 . with_reducible refine sxE ?_;trivial
 have hl:l.length<=1125899906842624:=e.1.1;refine gQ ?_;refine ⟨λa=>⟨⟨by omega,a⟩,q0a (k1z _ (e.1.2 _ (q1z a))) ?_⟩,λhge=> ?_⟩
 . refine gQ ?_;refine ⟨λo=> ?_,λo=>q3P a d o ?_⟩
   . rw [vPrin,show (allN l.length λj=>vPart (l.getD j ByteArray.empty))=false from q0w a o];simp
   with_reducible refine sxE ?_
   rw [q1s (by omega)]
 rw [vPrin,h,show (allN l.length λj=>vPart (l.getD j ByteArray.empty))=true from q0x λj hj=>d j (by omega)];rfl
def dec:Bool->List UInt8->List UInt8->List (List UInt8)
 |_,cur,[]=>[cur]
 |true,cur,c :: r=>dec false (cur++ [c]) r
 |false,cur,c :: r=>if c=92 then dec true cur r else if c=47 then cur :: dec false [] r else dec false (cur++ [c]) r
def rlmR:Bool->List UInt8->Bool
 |prev,[]=> !prev
 |prev,c :: cs=>if c==46 then !prev&& rlmR true cs else realmChar c&& rlmR false cs
def labL(l:List UInt8):Bool:=decide (0<l.length) && l.all realmChar
def z3M:∀ (cs a:List UInt8),(splitGo a cs).all labL=(a.all realmChar&& rlmR a.isEmpty cs)
 | [],a=>by cases a<;>simp [splitGo,labL,rlmR,Bool.and_comm]
 |c :: cs,a=>by
  rw [splitGo,rlmR];split
  . have:=z3M cs [];simp only [BA,this,Cq,List.isEmpty_nil,BP];cases a<;>simp [labL,Bool.and_comm,Bool.and_left_comm]
  have:=z3M cs (c :: a);rw [this,BA,List.isEmpty_cons];cases realmChar c<;>simp
def rlmAt(prev:Bool)(l:List UInt8)(j:Nat):Bool:=
 if l.getD j 0=46 then decide (j+1<l.length) && (if j=0 then !prev else decide (l.getD (j-1) 0≠46)) else realmChar (l.getD j 0)
def j0z:∀ (l:List UInt8) (a:Bool),l≠ []->rlmR a l=allN l.length (rlmAt a l)
 | [],_,h=>absurd rfl h
 | [c],a,_=>by simp only [rlmR,allN,Cv,List.range_one,BA,Cq,Ch,rlmAt];by_cases h:c=46<;>simp [h]
 |c :: d :: l,a,_=>by
  have p:=j0z (d :: l) (c==46) (by simp);have o:∀j,rlmAt a (c :: d :: l) (j+1)=rlmAt (c==46) (d :: l) j:=λj=>by
   unfold rlmAt;simp only [AM,As,Cn];cases j with
   |zero=>
    by_cases h:c=46
    . simp [h]
    have:(c==46)=false:=by simpa using h
    simp [h,this]
   |succ j=>simp
  have r:allN (c :: d :: l).length (rlmAt a (c :: d :: l))=(rlmAt a (c :: d :: l) 0&& allN (d :: l).length (rlmAt (c==46) (d :: l))):=by
   rw [B3,Aj,q2J,q2J];constructor
   . intro h;exact ⟨h 0 (by simp),λj e=>by rw [<-o];exact h (j+1) (by simp at e⊢;omega)⟩
   rintro ⟨u,h⟩ j e;cases j with
   |zero=>exact u
   |succ j=>rw [o];exact h j (by simp at e⊢;omega)
  rw [r,<-p,rlmR];by_cases h:c=46
  . subst h;simp [rlmAt]
  have:(c==46)=false:=by simpa using h
  simp [rlmAt,h,this]
theorem z3e(s:ByteArray):realmB s=(szB s&& allN s.size (rlmAt true s.data.toList)):=by
 have a:(splitB s).all labelB=(splitDot s.data.toList).all labL:=by unfold splitB;rw [List.all_map];congr 1
 rw [realmB,a,splitDot,z3M,Cq,List.isEmpty_nil,BP];by_cases h:s.data.toList= []
 . have:s.size=0:=by have:=congrArg List.length h;simpa using this
   simp [szB,this]
 rw [j0z _ _ h];first|rfl|simp
variable {s:ByteArray}
def j8o(hlt:i<s.size):rlmAt true s.data.toList i=true ↔
 (if ((s.data.toList.getD i 0).toNat:Int)=46 then (i:Int)≠0/\(i:Int)≠((s.size-1:Nat):Int)/\((s.data.toList.getD (i-1) 0).toNat:Int)≠46 else ((s.data.toList.getD i 0).toNat:Int)=45\/(65<=((s.data.toList.getD i 0).toNat:Int)/\((s.data.toList.getD i 0).toNat:Int)<=90)\/(48<=((s.data.toList.getD i 0).toNat:Int)/\((s.data.toList.getD i 0).toNat:Int)<=57)):=by
 have j:s.data.toList.length=s.size:=by simp
 have a:∀c:UInt8,c=46 ↔ (c.toNat:Int)=46:=λc=>j9R (c:=c) (n:=46) (by decide);unfold rlmAt;rw [<-q5G,j];by_cases d:s.data.toList.getD i 0=46
 . rw [if_pos d,if_pos ((a _).1 d),Aj,decide_eq_true_eq];by_cases e:i=0
   . simp [e]
   rw [if_neg e,decide_eq_true_eq,ne_eq,a];omega
 rw [if_neg d,if_neg (λh=>d ((a _).2 h))]
def rbad(a:i<s.size)(h:¬rlmAt true s.data.toList i=true):false=(szB s&& allN s.size (rlmAt true s.data.toList)):=by rw [q0w a (by simpa using h)];simp
def z1T(s:ByteArray)(hs:s.size<=140737488355328):PC Tryz.prog 120 [rS s] (rB (realmB s)):=by
 refine q0q rfl rfl ?_;rw [z3e];refine rQ fi120 ?_;refine z0b 3 s.size (λj=>rlmAt true s.data.toList j=true) ?_ λi hi a=> ?_
 . with_reducible refine sxE ?_;trivial
 have p:IntKind.i64.wrap ((s.size:Int) -1)=(s.size:Int) -1:=by rw [wrapi (by omega)]
 refine gQ ?_;refine ⟨λd=> ?_,λhge=> ?_⟩
 . have e3:((s.size-1:Nat):Int)=(s.size:Int) -1:=by omega
   have e:=j8o d;rw [p];rcases Cl i with r|hpos
   . have o:∀k:Nat,IntKind.i64.wrap ((i:Int) -1)=k->i=0:=λ_ _=>r;repeat' (first|apply And.intro|intro _)
     all_goals first|omega| (refine rbad d ?_;rw [e];split<;>omega) |refine q3P d a (by rw [e];split<;>omega) ?_
     all_goals (with_reducible refine sxE ?_<;>try exact True.intro)
     all_goals first|rw [q1s (by omega)] |rfl
   have o:IntKind.i64.wrap ((i:Int) -1)=((i-1:Nat):Int):=by rw [wrapi (by omega)];omega
   rw [o];simp only [AA];repeat' (first|apply And.intro|intro _)
   all_goals first|omega| (refine rbad d ?_;rw [e];split<;>omega) |refine q3P d a (by rw [e];split<;>omega) ?_
   all_goals (with_reducible refine sxE ?_<;>try exact True.intro)
   all_goals first|rw [q1s (by omega)] |rfl
 rw [q0x λj hj=>a j (by omega),Ch,szB];refine ⟨λh=> ?_,λh=> ?_⟩ <;>simp [h]
def j1N(s:ByteArray)(hs:s.size<=140737488355328):PC Tryz.prog 119 [rS s] (rB (visB s)):=by
 refine q0q rfl rfl ?_;refine rQ fi119 ?_;refine z0b 3 s.size (λj=>visC (s.data.toList.getD j 0)=true) ?_ λi hi e=> ?_
 . with_reducible refine sxE ?_;trivial
 refine gQ ?_;refine ⟨λa=>⟨⟨by omega,a⟩,λo=>⟨⟨by omega,a⟩,λd=> ?_,λd=>q3P a e ?_ ?_⟩,λo=> ?_⟩,λhge=> ?_⟩
 . rw [show visB s=false from q0w a (z9L d)]
 . exact j1J o d
 . with_reducible refine sxE ?_
   rw [q1s (by omega)]
 . rw [show visB s=false from q0w a (z8r o)]
 rw [show visB s=true from q0x λj hj=>e j (by omega)]
theorem q7d(p:Int):kindOf p=kind1\/kindOf p=kind2\/kindOf p=kindZ:=by
 unfold kindOf;split
 . exact .inl rfl
 split
 . exact .inr (.inl rfl)
 exact .inr (.inr rfl)
def j4X(k:Key):PC Tryz.prog 46 [.agg (KeyT.cells k)] (rB (vKey k)):=by
 refine q0q rfl rfl ?_;refine rQ fi46 ?_;refine q0a (j5D k) ?_;rcases q7d k.1 with h|h|h
 . rw [h];refine gQ ?_;trivial
 . rw [h];refine gQ ?_;trivial
 rw [h];refine gQ ?_;trivial
def q2L(l:List UInt8)(hl:l.length<=140737488355328):PC Tryz.prog 105 [.isl .u8 l] (.isl .u8 l):=by refine q0f rfl rfl ?_;refine rQ fi105 ?_;intro b a;refine ⟨a,λh=>⟨⟨by omega,by omega⟩,⟨by omega,by omega⟩,Ab (by omega)⟩⟩
set_option maxHeartbeats 40000000
theorem z7a(x:derT.den)(a:derT.ok x):PC Tryz.prog 216 [.fn 217 [.agg (derT.cells x)] []] (.fn 232 [] [.iptr (.clo 217 derT) x 0]):=by
 refine q0q rfl rfl ?_;refine q2i fi216 ?_;refine uQ 3 _ ?_;with_reducible refine sxE ?_
 refine q2n 1 0 (ty:=.clo 217 derT) (x:=x) rfl a rfl rfl ?_;refine gQ ?_;trivial
def vwK(key label ctx:List UInt8)(n:Nat):Nat->Nat->List SV->List SObj->Prop:=λi _ args' new=>args'= [rI ((i+1:Nat):Int),.isl .u8 (kblk key label ctx n (i+1))]/\new= []
theorem z3Q(key a d:List UInt8)(n N:Nat)(w:key.length<=64)(z:a.length<=4096)(D:d.length<=4096)(E:n<=1024)(hN:N<=1000):IterI True Tryz.prog 232 [] [.iptr (.clo 217 derT) (key,a,d,(n:Int)) 0] N (vwK key a d n):=by
 refine ⟨by kernel_rfl,λl B J o C p=> ?_⟩;refine (q1X (yFG o) fi232 ?_).2;letI:Ghost:=topG (yFG o) [];refine gQ ?_;refine z1o [] (λi=>i) (λi=>[(3,rI ((i+1:Nat):Int))]) N (λ_=>True) trivial rfl (by simp) (by simp [SV.bel]) ?_ λi hi _=> ?_
 . with_reducible refine sxE ?_
   rfl
 by_cases j:i<N
 . have u:IntKind.i64.wrap (((i+1:Nat):Int)+1)=((i+1+1:Nat):Int):=q1s (by omega);refine gQ ?_;refine q0a (j3Z key a d n (i+1) w z D E (by omega)) ?_;have e:=q7M key a d n (i+1);generalize A:kblk key a d n (i+1)=b at*;refine uQ 8 _ ?_;with_reducible refine sx1 e ?_
   refine ⟨⟨by decide,by decide⟩,?_⟩;refine q1k 1 rfl rfl (by rw [e];decide) ?_ ?_ ?_
   . with_reducible refine sxE ?_;trivial
   . with_reducible refine sxE ?_
     omega
   with_reducible refine sxE ?_
   have r:List.take 32 (List.drop 0 b)=b:=by rw [Ap];exact Ab (by omega)
   refine gy1 r ?_;refine q2h [.dead] o C j (λn=>⟨_,_,⟨by rw [A,Ab (show b.length<=32 by omega)],rfl⟩,q0S rfl⟩) λc=> ?_;cases c
   . refine gQ ?_;exact ⟨_,_,rfl,rfl,by omega⟩
   refine gQ ?_;refine ⟨j,trivial,⟨[_],rfl⟩,?_⟩;with_reducible refine sx1 u ?_;trivial
 obtain rfl:i=N:=by omega
 exact j4D o (p trivial)
def kacc(key label ctx:List UInt8)(n:Nat):Nat->List UInt8
 |0=>[]
 |i+1=>kacc key label ctx n i++kblk key label ctx n (i+1)
def q7N(key a d:List UInt8)(n:Nat):∀i,(kacc key a d n i).length=32*i
 |0=>rfl
 |i+1=>by rw [kacc,Aa,q7N key a d n i,q7M];omega
def kdfS(key label ctx:List UInt8)(n:Nat):List UInt8:=(kacc key label ctx n ((n+31) / 32)).take n
def z6u(key a d:List UInt8)(n:Nat):(kdfS key a d n).length=n:=by unfold kdfS;rw [Ah,q7N];omega
def frC(n i:Nat)(G:List SObj)(acc:List UInt8):List SObj:=.cells 3 [rI n] :: .cells 25 [.bld (G.length+2) .u8 (32*i)] :: (G++ [.row .u8 acc])
def frH(key label ctx:List UInt8)(n:Nat)(i:Nat)(H':List SObj):Prop:=i< (n+31) / 32/\∃G,(∃g,G=List.replicate g SObj.dead)/\H'=frC n i G (kacc key label ctx n i)
def frX(key label ctx:List UInt8)(n:Nat)(i:Nat)(ex:Ex)(H':List SObj):Prop:=ex= .exit 0/\i+1=(n+31) / 32/\∃G,(∃g,G=List.replicate g SObj.dead)/\H'=frC n (i+1) G (kacc key label ctx n (i+1))
def q8V{h:Nat}{t:Ty}{xs:List t.den}{l:List SObj}:∀g,frzObH h t xs l->frzObH h t xs (List.replicate g SObj.dead++l)
 |0,hl=>hl
 |g+1,hl=>⟨trivial,q8V g hl⟩
theorem j6N(key d e:List UInt8)(n:Nat)(B:key.length<=64)(C:d.length<=4096)(L:e.length<=4096)(h1:1<=n)(F:n<=1024):PC Tryz.prog 215 [rI n,.fn 232 [] [.iptr (.clo 217 derT) (key,d,e,(n:Int)) 0]] (.isl .u8 (kdfS key d e n)):=by
 refine q0q rfl rfl (q4t (q1X noFG fi215 ?_));letI:Ghost:=topG noFG [];refine gQ ?_;refine q3I 1 0 .u8 rfl rfl rfl ?_;have K:(n+31) / 32<=1000:=by omega
 refine j4Z (inf:=True) (frH key d e n) (frX key d e n) rfl rfl rfl (z3Q key d e n ((n+31) / 32) B C L F K) (λ_ Hn h=>absurd h.1 (BZ _)) (λi n j z h=>by rw [h.1];rfl) ⟨by omega,[],⟨0,rfl⟩,rfl⟩ rfl ?_ ?_ ?_
 . rintro i _ j z E ⟨hlt,G,⟨g,r⟩,rfl⟩ ⟨rfl,rfl⟩ J I;letI:Ghost:=pinG noFG J;rw [Ac];have p:=q7N key d e n i;have u:=q7M key d e n (i+1);have o:kacc key d e n i++kblk key d e n (i+1)=kacc key d e n (i+1):=rfl;generalize hka:kacc key d e n i=a at*;generalize hkb:kblk key d e n (i+1)=b at*;unfold frC;refine uQ 600 _ ?_;simp only [putL,Bx];with_reducible refine sxaE ?_
   letI:Ghost:=pinG noFG I;refine gya2 p u ?_;refine ⟨⟨by omega,by omega⟩,λh=>⟨rfl,by omega,G++ [.dead],⟨g+1,by rw [r,CB]⟩,?_⟩,λh=>⟨by omega,G++ [.dead],⟨g+1,by rw [r,CB]⟩,?_⟩⟩
   . rw [<-o];simp [frC,CQ]
   rw [<-o];simp [frC,CQ]
 . rintro D _ ⟨h,_⟩;exact absurd h (BZ _)
 rintro D i ex _ E ⟨rfl,A,G,⟨g,r⟩,rfl⟩;refine ⟨_,rfl,?_⟩;unfold frC;letI:Ghost:=topG noFG [D];have p:=q7N key d e n (i+1);have w:List.take n (kacc key d e n (i+1))=kdfS key d e n:=by rw [A];rfl
 generalize kacc key d e n (i+1)=a at*;refine uQ 5 _ ?_;with_reducible refine sxaE ?_
 refine ⟨⟨by omega,by omega⟩,?_⟩;refine q1k (G.length+2) (ty:=.u8) (xs:=a) rfl (by simp) (by omega) ?_ ?_ ?_
 . with_reducible refine sxaE ?_
   refine ⟨by omega,?_⟩;rw [r];exact q8V g ⟨trivial,trivial⟩
 . with_reducible refine sxaE ?_
   exact ⟨by omega,by omega⟩
 with_reducible refine sxaE ?_
 rw [CH,w];have hkl:(kdfS key d e n).length=n:=z6u _ _ _ _;refine aQ ?_;refine q0a (q2L (kdfS key d e n) (by omega)) ?_;refine aQ ?_;trivial
def k1v(key a d:List UInt8)(n:Nat)(r:key.length<=64)(u:a.length<=4096)(w:d.length<=4096)(o:1<=n)(p:n<=1024):PC Tryz.prog 193 [.isl .u8 key,.isl .u8 a,.isl .u8 d,rI n] (.tup [.isl .u8 (kdfS key a d n),rI 0]):=by
 have j:=j8n n [key,a,d] o p (λl e=>by simp at e;rcases e with rfl|rfl|rfl<;>omega) (by simp);refine q0q rfl rfl ?_;refine rQ fi193 ?_;refine q0u 0 ?_;with_reducible refine sxE ?_
 refine cQ j ?_;refine cQ (z7a (key,a,d,(n:Int)) ⟨⟨show key.length<=1125899906842624 by omega,λ_ _=>trivial⟩,⟨show a.length<=1125899906842624 by omega,λ_ _=>trivial⟩,⟨show d.length<=1125899906842624 by omega,λ_ _=>trivial⟩,trivial⟩) ?_;refine cQ (j6N key a d n r u w o p) ?_;trivial
abbrev rkF(key:List UInt8)(bw:Bool):SV:=.fn 290 [] [.iptr .bool bw 0,.iptr (.ptr CipT) (some (cipS key)) 0]
theorem j5h(key:List UInt8)(a:key.length=16):CipT.ok (cipS key):=by
 have h1:fwS.length=256:=by simp [fwS]
 have h2:(invP 256).length=256:=z5u 256;have h3:=q4O key a;unfold cipS;generalize fwS=fw at*;generalize invP 256=iv at*;generalize wordsS key=w at*;refine ⟨⟨?_,?_⟩,?_,?_⟩;all_goals first|exact trivial|exact ⟨by assumption,λ_ _=>trivial⟩ |exact ⟨⟨by assumption,λ_ _=>trivial⟩,trivial⟩ |skip
theorem q7h(key:List UInt8)(a:Bool)(d:key.length=16):PC Tryz.prog 272 [.iptr CipT (cipS key) 0,rB a] (rkF key a):=by
 refine q0q rfl rfl ?_;refine q2i fi272 ?_;refine uQ 4 _ ?_;with_reducible refine sxE ?_
 refine q2n 2 0 (ty:=.ptr CipT) (x:=some (cipS key)) rfl (λy h=>by cases h;exact j5h key d) rfl rfl ?_;refine q2n 3 1 (ty:=.bool) (x:=a) rfl trivial rfl rfl ?_;refine gQ ?_;trivial
def rkI(bw:Bool)(i:Nat):Nat:=if bw then 10-i else i
def rkK(key:List UInt8)(i:Nat):List UInt8:=((wordsS key).drop (i*16)).take 16
def vwR(key:List UInt8)(bw:Bool):Nat->Nat->List SV->List SObj->Prop:=λi _ args' new=>args'= [rI (rkI bw i:Nat),.dat (.arr 16 .u8) (rkK key (rkI bw i))]/\new= []
theorem q7r(key:List UInt8)(o:Bool)(r:key.length=16):Iter Tryz.prog 290 [] [.iptr .bool o 0,.iptr (.ptr CipT) (some (cipS key)) 0] 11 (vwR key o):=by
 refine ⟨by kernel_rfl,λl B J j p=> ?_⟩;have hwl:=q4O key r;refine (q1X (yFG j) fi290 ?_).2;letI:Ghost:=topG (yFG j) [];refine gQ ?_;refine z1o [] (λi=>i) (λi=>[(5,rI (i:Nat))]) 11 (λ_=>True) trivial rfl (by simp) (by simp [SV.bel]) ?_ λi hi _=> ?_
 . with_reducible refine sxE ?_;trivial
 have d:=wsx i (by omega);by_cases a:i<11
 . have e:((i:Int) <11)=True:=eq_true (by omega);have u:IntKind.i64.wrap (10- (i:Int))=((10-i:Nat):Int):=by rw [wrapi (by omega)];omega
   cases o with
   |false=>
    refine gy1 e ?_;refine ⟨by omega,q2h [] j p a (λn=>⟨_,_,⟨rfl,rfl⟩,q0S rfl⟩) λc=> ?_⟩;cases c
    . refine gQ ?_;exact ⟨_,_,rfl,rfl,by omega⟩
    refine gQ ?_;refine ⟨a,trivial,⟨[],rfl⟩,?_⟩;with_reducible refine sx1 d ?_;trivial
   |true=>
    refine gy2 e u ?_;refine ⟨by omega,q2h [] j p a (λn=>⟨_,_,⟨rfl,rfl⟩,q0S rfl⟩) λc=> ?_⟩;cases c
    . refine gQ ?_;exact ⟨_,_,rfl,rfl,by omega⟩
    refine gQ ?_;refine ⟨a,trivial,⟨[],rfl⟩,?_⟩;with_reducible refine sx1 d ?_;trivial
 obtain rfl:i=11:=by omega
 have e:(((11:Nat):Int) <11)=False:=by decide
 refine gy1 e ?_;exact ⟨_,_,rfl,rfl,Ae _⟩
theorem j5J(n:Nat):PC Tryz.prog 194 [rI n] (.isl .u8 (four n)):=by refine q0f rfl rfl ?_;refine rQ fi194 ?_;refine ⟨⟨q3n _,q3n _,q3n _,q3n _⟩,?_⟩;rw [byteN _ 24 (by decide),byteN _ 16 (by decide),byteN _ 8 (by decide),byteN0];rfl
theorem j9S(a:List (List UInt8))(hl:a.flatten.length<=1099511627776)(hn:a.length<=1099511627776):PE Tryz.prog 161 [.isl (.slice .u8) a] [] (.ret (.bld 0 .u8 a.flatten.length)) [.row .u8 a.flatten]:=by
 refine z8u ?_;refine rQ fi161 ?_;refine q2C 3 .u8 (λi=>(a.take i).flatten) (λi=>[(8,rI i)]) a.length (λ_=>True) rfl (by simp) (by simp) rfl (λi=>rfl) ?_ λi hi _=> ?_
 . with_reducible refine sxE ?_;trivial
 have o:=wsx i (by omega);have hfl:=q1A a i;by_cases h:i<a.length
 . have e:=q4q h;have d:=q1A a (i+1);rw [e,Aa] at d;have hfl2:(a.take i).flatten.length+ (a.getD i (Ty.dflt (.slice .u8))).length<=a.flatten.length:=d;refine gQ ?_;refine ⟨λ_=>⟨⟨by omega,h⟩,⟨by omega,by omega⟩,q1F [.dead] [] h trivial (by rw [e];rfl) ?_⟩,λj=>absurd h j⟩;with_reducible refine sx3 o e ?_
   rfl
 obtain rfl:i=a.length:=by omega
 rw [Aw] at*;refine gQ ?_;refine ⟨λj=>absurd j (by omega),λ_=> ?_⟩;exact j9s (h:=0) rfl rfl
theorem z5L(a:List (List UInt8))(hl:a.flatten.length<=1099511627776)(hn:a.length<=1099511627776):PC Tryz.prog 161 [.isl (.slice .u8) a] (.isl .u8 a.flatten):=by
 refine q0f rfl rfl ?_;refine rQ fi161 ?_;refine q2C 3 .u8 (λi=>(a.take i).flatten) (λi=>[(8,rI i)]) a.length (λ_=>True) rfl (by simp) (by simp) rfl (λi=>rfl) ?_ λi hi _=> ?_
 . with_reducible refine sxE ?_;trivial
 have o:=wsx i (by omega);have hfl:=q1A a i;by_cases h:i<a.length
 . have e:=q4q h;have d:=q1A a (i+1);rw [e,Aa] at d;have hfl2:(a.take i).flatten.length+ (a.getD i (Ty.dflt (.slice .u8))).length<=a.flatten.length:=d;refine gQ ?_;refine ⟨λ_=>⟨⟨by omega,h⟩,⟨by omega,by omega⟩,q1F [.dead] [] h trivial (by rw [e];rfl) ?_⟩,λj=>absurd h j⟩;with_reducible refine sx3 o e ?_
   rfl
 obtain rfl:i=a.length:=by omega
 rw [Aw] at*;refine gQ ?_;refine ⟨λj=>absurd j (by omega),λ_=> ?_⟩;exact ⟨⟨by omega,by omega⟩,Aw⟩
def z1t(k:List UInt8)(ps:List (List UInt8))(j:k.length<=64)(e:ps.flatten.length<=1099511627776)(d:ps.length<=1099511627776):PC Tryz.prog 230 [.isl .u8 k,.isl (.slice .u8) ps] (.isl .u8 (hmS k ps.flatten)):=by have a:=q3a k ps.flatten;refine q0f rfl rfl ?_;refine rQ fi230 ?_;refine cy1 (j5z k ps j e d) a ?_;exact ⟨⟨by decide,by decide⟩,Ab (by omega)⟩
def dkS(k:KeyT.den)(u use:Nat):List UInt8:=kdfS k.2.2 (four u++ [UInt8.ofNat use]) [] k.2.2.length
def q4x(k:KeyT.den)(u use:Nat):(dkS k u use).length=k.2.2.length:=z6u _ _ _ _
theorem z3E(k:KeyT.den)(u:Nat)(hk:k.2.2.length<=64):PC Tryz.prog 160 [.agg (KeyT.cells k),rI u] (.fn 192 [] [.iptr KeyT k 0,.iptr (.int .i64) (u:Int) 0]):=by
 refine q0q rfl rfl ?_;refine q2i fi160 ?_;refine uQ 4 _ ?_;with_reducible refine sxE ?_
 refine q2n 2 0 (ty:=KeyT) (x:=k) rfl ⟨trivial,trivial,⟨by omega,λ_ _=>trivial⟩⟩ rfl rfl ?_;refine q2n 3 1 (ty:=.int .i64) (x:=(u:Int)) rfl trivial rfl rfl ?_;refine gQ ?_;trivial
theorem q6a(k:KeyT.den)(u a:Nat)(o:k.2.2.length<=64)(r:1<=k.2.2.length)(hu:a<256):PC Tryz.prog 192 [.raw (.int .u8 a),.iptr KeyT k 0,.iptr (.int .i64) (u:Int) 0] (.isl .u8 (dkS k u a)):=by
 obtain ⟨p,v,b⟩:=k;have d:b.length<=64:=o;have e:1<=b.length:=r;refine q0q rfl rfl ?_;refine rQ fi192 ?_;refine q0i (j5J u) ?_;refine gQ ?_;have j:=z5L [four u,[UInt8.ofNat a]] (by simp [four]) (by simp);rw [show [four u,[UInt8.ofNat a]].flatten=four u++ [UInt8.ofNat a] by simp] at j;refine ⟨by rw [Bl];omega,?_⟩;refine q0Z 0 (by decide) ?_;with_reducible refine sxE ?_
 refine cR j ?_;refine q0d ((k1v b (four u++ [UInt8.ofNat a]) [] b.length d (by simp [four]) (by simp) e (by omega)).arg ?_) ?_
 . with_reducible refine sxE ?_;trivial
 refine gQ ?_;rfl
def ksB(key conf text:List UInt8)(i:Nat):UInt8:=text.getD i 0^^^ (hmS key (conf++four (i / 32+1))).getD (i%32) 0
def ksP(key conf text:List UInt8)(n:Nat):List UInt8:=(List.range text.length).map λi=>if i<n then ksB key conf text i else text.getD i 0
def ksS(key conf text:List UInt8):List UInt8:=(List.range text.length).map (ksB key conf text)
def z9h(key d a:List UInt8)(n:Nat):(ksP key d a n).length=a.length:=by simp [ksP]
def q6J(key d a:List UInt8):(ksS key d a).length=a.length:=by simp [ksS]
def j3K(key d a:List UInt8):ksP key d a 0=a:=by
 apply Au
 . simp [ksP]
 intro j h1 e;simp [ksP,Ad,e]
def z4S(key d a:List UInt8){n:Nat}(h:a.length<=n):ksP key d a n=ksS key d a:=by
 apply Au
 . simp [ksP,ksS]
 intro j e h2;simp [ksP] at e;simp only [ksP,ksS,AD,AB];rw [if_pos (by omega)]
def j8r(key d a:List UInt8)(e:i<a.length):(ksP key d a i).getD i 0=a.getD i 0:=by simp [ksP,Ad,e]
theorem j6D(key d a:List UInt8)(hi:i<a.length):(ksP key d a i).set i (ksB key d a i)=ksP key d a (i+1):=by
 apply Au
 . simp [ksP]
 intro j h1 h2;rw [Bg];simp only [ksP,AD,AB];split
 . subst_vars;rw [if_pos (by omega)]
 rename_i hne;by_cases e:j<i
 . rw [if_pos e,if_pos (by omega)]
 rw [if_neg e,if_neg (by omega)]
def j0u(key d a:List UInt8)(e:i<a.length):(ksS key d a).getD i 0=ksB key d a i:=by simp [ksS,Ad,e]
theorem j7Y(key a d:List UInt8):ksS key a (ksS key a d)=d:=by
 apply Au
 . rw [q6J,q6J]
 intro j p o;have e:(ksS key a (ksS key a d))[j]=ksB key a (ksS key a d) j:=by rw [<-j0u key a (ksS key a d) (by rw [q6J];exact o),Ad,Af p];rfl
 rw [e];unfold ksB;rw [j0u key a d o];unfold ksB;rw [BV,CJ,BC,Ad,Af o];rfl
def q9N(key o d:List UInt8)(O:key.length<=64)(hc:o.length<=4096)(ht:d.length<=1048576):PC Tryz.prog 231 [.isl .u8 key,.isl .u8 o,.isl .u8 d] (.isl .u8 (ksS key o d)):=by
 have A:=j9S [d] (by simp;omega) (by simp);rw [BO] at A;refine q0f rfl rfl ?_;refine rQ fi231 ?_;refine q0u 0 ?_;with_reducible refine sxE ?_
 refine eQ [] (A) ?_;refine z5I (ι:=Nat) (λa=>[(8,.raw (.int .i64 ((32*a:Nat):Int)))]) (λa=>[.dead,.row .u8 (ksP key o d (32*a))]) (λa=>(d.length+31) / 32-a) (λa=>a<=(d.length+31) / 32) 0 (Ak _) 2 (by rw [j3K]) (by decide) (λ_=>rfl) (λ_=>rfl) (λ_=>rfl) ?_ ?_
 . with_reducible refine sxE ?_;trivial
 intro a ha;have hpl:=z9h key o d (32*a);have r:IntKind.i64.wrap (((32*a:Nat):Int)+32)=((32* (a+1):Nat):Int):=by rw [wrapi (by omega)];omega
 by_cases hlt:32*a<d.length
 . have Q:((32*a:Nat):Int).tdiv 32=(a:Int):=by rw [BR (by omega)];omega
   have L:IntKind.i64.wrap (a:Int)=(a:Int):=by rw [wrapi (by omega)]
   have C:IntKind.i64.wrap ((a:Int)+1)=((a+1:Nat):Int):=q1s (by omega);have p:(((32*a:Nat):Int) < (d.length:Int))=True:=eq_true (by omega);refine gy4 p Q L C ?_;have z:=z1t key [o,four (a+1)] O (by simp [four];omega) (by simp);rw [show [o,four (a+1)].flatten=o++four (a+1) by simp] at z;have D:=q3a key (o++four (a+1));refine ⟨by decide,q0a (j5J (a+1)) ?_⟩;refine gQ ?_;refine q0u 2 ?_;with_reducible refine sxE ?_
   refine q0a z ?_;obtain ⟨E,hE⟩:∃E,E=min (32* (a+1)) d.length:=⟨_,rfl⟩;have w:mxV false ((32* (a+1):Nat):Int) (d.length:Int)=(E:Int):=by unfold mxV;simp only [A2,if_false];split<;>omega
   refine gy2 r w ?_;refine ⟨⟨by omega,by omega,by omega⟩,?_⟩;refine q0m (ι:=Nat) (λj=>[(37,rI j)]) (λj=>[.dead,.row .u8 (ksP key o d (32*a+j)),.dead]) (λj=>(E-32*a) -j) (λj=>j<=E-32*a) 0 (Ak _) rfl ?_ ?_
   . with_reducible refine sxE ?_;trivial
   intro j hj;have I:=z9h key o d (32*a+j);have J:IntKind.i64.wrap ((j:Int)+1)=((j+1:Nat):Int):=q1s (by omega);have G:IntKind.i64.wrap (((32*a:Nat):Int)+ (j:Int))=((32*a+j:Nat):Int):=by rw [wrapi (by omega)];omega
   by_cases hjl2:j<E-32*a
   . have u:((j:Int) < ((E-32*a:Nat):Int))=True:=eq_true (by omega);have F:=j8r key o d (i:=32*a+j) (by omega);have N:=xor8 (d.getD (32*a+j) 0) ((hmS key (o++four (a+1))).getD j 0);have B:=j6D key o d (i:=32*a+j) (by omega);have K:ksB key o d (32*a+j)=d.getD (32*a+j) 0^^^ (hmS key (o++four (a+1))).getD j 0:=by unfold ksB;rw [show (32*a+j) / 32=a by omega,show (32*a+j)%32=j by omega]
     rw [K] at B;refine gyd10 u G I D F N Ai Ai Ai Ai ?_;refine ⟨⟨by omega,by omega⟩,by omega,⟨by omega,by omega⟩,⟨by omega,by omega⟩,⟨by omega,by rw [UInt8.ofNat_toNat]⟩,j+1,(show j+1<=E-32*a by omega),by dsimp only;omega,?_,?_⟩
     . rw [AR,B];rfl
     with_reducible refine sx1 J ?_;trivial
   obtain rfl:j=E-32*a:=by omega
   have u:((((E-32*a:Nat):Int)) < ((E-32*a:Nat):Int))=False:=eq_false (by omega);refine gy2 u r ?_;refine ⟨a+1,(show a+1<=(d.length+31) / 32 by omega),by dsimp only;omega,⟨[.dead],?_⟩,?_⟩
   . have e:ksP key o d (32*a+ (E-32*a))=ksP key o d (32* (a+1)):=by
      rcases Nat.le_total (32* (a+1)) d.length with h|h
      . rw [show 32*a+ (E-32*a)=32* (a+1) by omega]
      rw [z4S key o d (by omega),z4S key o d h]
     rw [e];rfl
   with_reducible refine sxE ?_;trivial
 have p:(((32*a:Nat):Int) < (d.length:Int))=False:=eq_false (by omega);refine gy1 p ?_;rw [z4S key o d (by omega)];have hsl:=q6J key o d;exact ⟨⟨by omega,by omega⟩,Ab (by omega)⟩
def uOk(k:Key)(u:Int):Bool:=vKey k&& (decide (1<=u) && decide (u<=1023))
theorem q5Y(k:Key)(u:Int)(ho:KeyT.ok k):PC Tryz.prog 159 [.agg (KeyT.cells k),rI u] (.tup [.agg (rawL (if uOk k u=true then kindOf k.1 else kindZ)),rI (if uOk k u=true then 0 else 2)]):=by
 have e:=j5D k;obtain ⟨p,v,b⟩:=k;refine q0q rfl (by simp [SV.clean,SV.cleanL,q5m]) ?_;change PC _ _ _ (.tup [.agg (rawL (kindOf p)),rB (vKey (p,v,b))]) at e;unfold uOk;show VC _ _ _ _ (PK (.tup [.agg (rawL (if (vKey (p,v,b) && (decide (1<=u) && decide (u<=1023)))=true then kindOf p else kindZ)),_]));generalize vKey (p,v,b)=r at*;have w:=q7d p;generalize kindOf p=kv at*;rcases w with rfl|rfl|rfl;all_goals
  cases r
  . refine rQ fi159 ?_;refine cQ e ?_;trivial
  by_cases j:1<=u
  . have a:(u<1)=False:=eq_false (by omega);by_cases o:u<=1023
    . have d:(1023<u)=False:=eq_false (by omega);refine rQ fi159 ?_;refine cy4 e j o a d ?_;trivial
    have d:(1023<u)=True:=eq_true (by omega);refine rQ fi159 ?_;refine cy4 e j o a d ?_;trivial
  have a:(u<1)=True:=eq_true (by omega);refine rQ fi159 ?_;refine q0a e ?_;refine gy2 j a ?_;trivial
def z8x(key a plain:List UInt8)(e:key.length<=64)(o:a.length<=4096)(j:plain.length<=1048576):PC Tryz.prog 209 [.isl .u8 key,.isl .u8 a,.isl .u8 plain] (.isl .u8 (a++ksS key a plain)):=by
 have hsl:=q6J key a plain;have d:=z5L [a,ksS key a plain] (by simp;omega) (by simp);rw [show [a,ksS key a plain].flatten=a++ksS key a plain by simp] at d;refine q0q rfl rfl ?_;refine rQ fi209 ?_;refine cQ (q9N key a plain e o j) ?_;refine q0u 0 ?_;with_reducible refine sxE ?_
 refine cQ d ?_;trivial
def z2a(key a:List UInt8)(e:key.length<=64)(hc:a.length<=1048576):PC Tryz.prog 211 [.isl .u8 key,.isl .u8 a] (.isl .u8 (hmS key a)):=by
 have d:=z1t key [a] e (by simp;omega) (by simp);rw [BO] at d;refine q0q rfl rfl ?_;refine rQ fi211 ?_;refine q0u 0 ?_;with_reducible refine sxE ?_
 refine cQ d ?_;trivial
def z9O(key a:List UInt8)(d:key.length<=64)(h1:16<=a.length)(hc:a.length<=1048576):PC Tryz.prog 210 [.isl .u8 key,.isl .u8 a] (.isl .u8 (ksS key (a.take 16) (a.drop 16))):=by refine q0q rfl rfl ?_;refine rQ fi210 ?_;rw [Aw];refine ⟨by omega,⟨by omega,by omega⟩,q0d (q9N key (a.take 16) (a.drop 16) d (by rw [Ah];omega) (by rw [Ag];omega)) ?_⟩;refine gQ ?_;trivial
def z16:List UInt8:=List.replicate 16 0
def tg9S(k:Key)(u:Nat)(c:List UInt8):List UInt8:=if k.1=1 then (hmS (dkS k u 85) (z16++c)).take 16 else hmS (dkS k u 85) c
end Go.Proofs.YthbcodbcndiapaaGreatDoor