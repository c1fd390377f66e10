/- Elements at offsets: contracts: the reference's whole numbers. -/
import Derived.Test.YtikapabgggphpaaGreatDoorS31
set_option linter.all false
namespace Go.Proofs.YtikapabgggphpaaGreatDoor
open Go Go.Sx Go.Proofs
set_option maxRecDepth 100000
set_option maxHeartbeats 40000000
theorem q1m(v:Int)(n:Nat)(h1:1≤n)(h8:n≤8)(hi:intS v=elemS 2 [numS v n]):
 @SoundI noGhost Tryz.prog (retF Tryz.prog [.tmp 2] (SealK (.isl .u8 (intS v)))) ⟨0,[.ic (icTail 4 ir60.code)],[rI v,.any,.raw (.slice none 0 0),rI n]++List.replicate 43 .any,[]⟩:=by
 letI:Ghost:=noGhost
 have hl:(numS v n).length=n:=by simp [numS]
 have w0:IntKind.i64.wrap ((n:Int) -1)=(n:Int) -1:=wrapi (by omega)
 refine gy1 w0 ?_;refine q3j 4 .u8 (fun k=>(numS v n).take k) (fun k=>[(5,rI ((n:Int) -1-k))]) n (fun _=>True) rfl (by simp) (by simp) rfl (fun i=>rfl) ?_ fun k hk _=> ?_
 · with_reducible refine sxE ?_
   simp
 have hln:((numS v n).take k).length=k:=by simp [numS];omega
 have w1:IntKind.i64.wrap (8* ((n:Int) -1-k))=8* ((n:Int) -1-k):=wrapi (by omega)
 have w2:IntKind.i64.wrap ((n:Int) -1-k-1)=(n:Int) -1- ((k+1:Nat):Int):=by rw [wrapi (by omega)];omega
 refine gy2 w1 w2 ?_;refine ⟨fun hlt=> ?_,fun hge=> ?_⟩
 · have hkn:k<n:=by omega
   have hst:=z6i (v:=v) hkn;have e8:(8* ((n:Int) -1-k)).toNat=8* (n-1-k):=by omega
   have hb:UInt8.ofNat (IntKind.u8.wrap (v.fdiv (2^ min (8* (n-1-k)) 64))).toNat=byteAt v (n-1-k):=rfl;rw [e8,hb];refine ⟨by omega,by rw [←hb];exact q1s _,⟨by omega,by omega⟩,q1M [_,_] [] hkn trivial (by rw [hst];rfl) ?_⟩
   simp (maxSteps:=3000000) only [hst,Ad,go_sem,↓zA,↓reduceIte,↓reduceDIte] <;>try simp only [zB]
 obtain rfl:k=n:=by omega
 have ht:List.take k (numS v k)=numS v k:=Ab (by omega)
 rw [ht,hl,hi];generalize numS v k=c at*;refine q0q 0 ?_;with_reducible refine sxE ?_
 rw [Ab (by omega)]
 refine ⟨by omega,by omega,?_⟩
 refine cQ (j4u 2 2 (by decide) c (by omega)) ?_;trivial
theorem q2b{v:Int}{k:Nat}(hk:k<9)(h1: -4611686018427387904≤v∧v≤4611686018427387904)(ho:oneB v k=true)(hall:∀j,j<k→oneB v j=false):intS v=elemS 2 [numS v (k+1)]:=by
 have hz:intSz v=k+1:=by unfold intSz;rw [q7p hk ho hall];exact Bo 1 k
 unfold intS;rw [if_pos h1,hz]
theorem j1c(v:Int):PC Tryz.prog 60 [rI v] (.isl .u8 (intS v)):=by
 refine q0i rfl rfl ?_;refine rQ fi60 ?_;refine ⟨fun h1=>⟨fun h2=> ?_,fun h2=> ?_⟩,fun h1=> ?_⟩
 · unfold intS;rw [if_neg (by omega)]
 · refine q0d (ι:=Nat) (fun k=>[(3,rI ((k+1:Nat):Int))]) (fun _=>[]) (fun k=>9-k) (fun k=>k≤6∧∀j,j<k→oneB v j=false) 0 ⟨by omega,fun j hj=>absurd hj (by omega)⟩ rfl ?_ ?_
   · with_reducible refine sxE ?_
     rfl
   rintro k ⟨hk,hall⟩;rcases (show k=0∨k=1∨k=2∨k=3∨k=4∨k=5∨k=6 by omega) with rfl|rfl|rfl|rfl|rfl|rfl|rfl
   · have e1:IntKind.i64.wrap (8* ((1:Nat):Int))=8:=by decide
     have e2:IntKind.i64.wrap ((8:Int) -1)=7:=by decide
     have e3:IntKind.i64.wrap (1*2^ min 7 64)=128:=by decide
     have e4:IntKind.i64.wrap (0- (128:Int))= -128:=by decide
     have e5:IntKind.i64.wrap (((1:Nat):Int)+1)=((2:Nat):Int):=by decide
     have e6:((((2:Nat):Int))=8)=False:=by decide
     have hoe:oneB v 0=true ↔ (-128≤v∧v<128):=by
      unfold oneB restN;rw [Am,decide_eq_true_iff,decide_eq_true_iff];omega
     by_cases h3:v< -128
     · have f1:(v< -128)=True:=eq_true h3;have ho:oneB v 0=false:=by cases h:oneB v 0 with
        |false=>rfl
        |true=>exact absurd (hoe.1 h) (by omega)
       refine gy8 e1 e2 e3 e4 e5 e6 f1 f1 ?_;refine ⟨1,⟨by omega,q0O hall ho⟩,by dsimp only;omega,rfl,?_⟩
       with_reducible refine sxE ?_;trivial
     have f1:(v< -128)=False:=eq_false h3;by_cases h4:128≤v
     · have f2:(128≤v)=True:=eq_true h4;have ho:oneB v 0=false:=by cases h:oneB v 0 with
        |false=>rfl
        |true=>exact absurd (hoe.1 h) (by omega)
       refine gy8 e1 e2 e3 e4 e5 e6 f1 f2 ?_;refine ⟨1,⟨by omega,q0O hall ho⟩,by dsimp only;omega,rfl,?_⟩
       with_reducible refine sxE ?_;trivial
     have f2:(128≤v)=False:=eq_false h4;refine uQ 21 _ ?_;with_reducible refine sy6 e1 e2 e3 e4 f1 f2 ?_
     refine q7o rfl (σ:=fun h=>h) ⟨?_,?_,rfl,rfl,rfl,rfl,Ai _,fun _ h0=>absurd h0 (A5 0)⟩ (q1m v 1 (by decide) (by decide) (q2b (k:=0) (by decide) (by omega) (hoe.2 (by omega)) hall))
     · repeat (first|exact trivial|exact rfl|refine And.intro ?_ ?_)
     repeat (first|exact trivial|exact rfl|refine And.intro ?_ ?_)
   · have e1:IntKind.i64.wrap (8* ((2:Nat):Int))=16:=by decide
     have e2:IntKind.i64.wrap ((16:Int) -1)=15:=by decide
     have e3:IntKind.i64.wrap (1*2^ min 15 64)=32768:=by decide
     have e4:IntKind.i64.wrap (0- (32768:Int))= -32768:=by decide
     have e5:IntKind.i64.wrap (((2:Nat):Int)+1)=((3:Nat):Int):=by decide
     have e6:((((3:Nat):Int))=8)=False:=by decide
     have hoe:oneB v 1=true ↔ (-32768≤v∧v<32768):=by
      simp only [oneB,restN,fdiv256,Am,decide_eq_true_eq];omega
     by_cases h3:v< -32768
     · have f1:(v< -32768)=True:=eq_true h3;have ho:oneB v 1=false:=by cases h:oneB v 1 with
        |false=>rfl
        |true=>exact absurd (hoe.1 h) (by omega)
       refine gy8 e1 e2 e3 e4 e5 e6 f1 f1 ?_;refine ⟨2,⟨by omega,q0O hall ho⟩,by dsimp only;omega,rfl,?_⟩
       with_reducible refine sxE ?_;trivial
     have f1:(v< -32768)=False:=eq_false h3;by_cases h4:32768≤v
     · have f2:(32768≤v)=True:=eq_true h4;have ho:oneB v 1=false:=by cases h:oneB v 1 with
        |false=>rfl
        |true=>exact absurd (hoe.1 h) (by omega)
       refine gy8 e1 e2 e3 e4 e5 e6 f1 f2 ?_;refine ⟨2,⟨by omega,q0O hall ho⟩,by dsimp only;omega,rfl,?_⟩
       with_reducible refine sxE ?_;trivial
     have f2:(32768≤v)=False:=eq_false h4;refine uQ 21 _ ?_;with_reducible refine sy6 e1 e2 e3 e4 f1 f2 ?_
     refine q7o rfl (σ:=fun h=>h) ⟨?_,?_,rfl,rfl,rfl,rfl,Ai _,fun _ h0=>absurd h0 (A5 0)⟩ (q1m v 2 (by decide) (by decide) (q2b (k:=1) (by decide) (by omega) (hoe.2 (by omega)) hall))
     · repeat (first|exact trivial|exact rfl|refine And.intro ?_ ?_)
     repeat (first|exact trivial|exact rfl|refine And.intro ?_ ?_)
   · have e1:IntKind.i64.wrap (8* ((3:Nat):Int))=24:=by decide
     have e2:IntKind.i64.wrap ((24:Int) -1)=23:=by decide
     have e3:IntKind.i64.wrap (1*2^ min 23 64)=8388608:=by decide
     have e4:IntKind.i64.wrap (0- (8388608:Int))= -8388608:=by decide
     have e5:IntKind.i64.wrap (((3:Nat):Int)+1)=((4:Nat):Int):=by decide
     have e6:((((4:Nat):Int))=8)=False:=by decide
     have hoe:oneB v 2=true ↔ (-8388608≤v∧v<8388608):=by
      simp only [oneB,restN,fdiv256,Am,decide_eq_true_eq];omega
     by_cases h3:v< -8388608
     · have f1:(v< -8388608)=True:=eq_true h3;have ho:oneB v 2=false:=by cases h:oneB v 2 with
        |false=>rfl
        |true=>exact absurd (hoe.1 h) (by omega)
       refine gy8 e1 e2 e3 e4 e5 e6 f1 f1 ?_;refine ⟨3,⟨by omega,q0O hall ho⟩,by dsimp only;omega,rfl,?_⟩
       with_reducible refine sxE ?_;trivial
     have f1:(v< -8388608)=False:=eq_false h3;by_cases h4:8388608≤v
     · have f2:(8388608≤v)=True:=eq_true h4;have ho:oneB v 2=false:=by cases h:oneB v 2 with
        |false=>rfl
        |true=>exact absurd (hoe.1 h) (by omega)
       refine gy8 e1 e2 e3 e4 e5 e6 f1 f2 ?_;refine ⟨3,⟨by omega,q0O hall ho⟩,by dsimp only;omega,rfl,?_⟩
       with_reducible refine sxE ?_;trivial
     have f2:(8388608≤v)=False:=eq_false h4;refine uQ 21 _ ?_;with_reducible refine sy6 e1 e2 e3 e4 f1 f2 ?_
     refine q7o rfl (σ:=fun h=>h) ⟨?_,?_,rfl,rfl,rfl,rfl,Ai _,fun _ h0=>absurd h0 (A5 0)⟩ (q1m v 3 (by decide) (by decide) (q2b (k:=2) (by decide) (by omega) (hoe.2 (by omega)) hall))
     · repeat (first|exact trivial|exact rfl|refine And.intro ?_ ?_)
     repeat (first|exact trivial|exact rfl|refine And.intro ?_ ?_)
   · have e1:IntKind.i64.wrap (8* ((4:Nat):Int))=32:=by decide
     have e2:IntKind.i64.wrap ((32:Int) -1)=31:=by decide
     have e3:IntKind.i64.wrap (1*2^ min 31 64)=2147483648:=by decide
     have e4:IntKind.i64.wrap (0- (2147483648:Int))= -2147483648:=by decide
     have e5:IntKind.i64.wrap (((4:Nat):Int)+1)=((5:Nat):Int):=by decide
     have e6:((((5:Nat):Int))=8)=False:=by decide
     have hoe:oneB v 3=true ↔ (-2147483648≤v∧v<2147483648):=by
      simp only [oneB,restN,fdiv256,Am,decide_eq_true_eq];omega
     by_cases h3:v< -2147483648
     · have f1:(v< -2147483648)=True:=eq_true h3;have ho:oneB v 3=false:=by cases h:oneB v 3 with
        |false=>rfl
        |true=>exact absurd (hoe.1 h) (by omega)
       refine gy8 e1 e2 e3 e4 e5 e6 f1 f1 ?_;refine ⟨4,⟨by omega,q0O hall ho⟩,by dsimp only;omega,rfl,?_⟩
       with_reducible refine sxE ?_;trivial
     have f1:(v< -2147483648)=False:=eq_false h3;by_cases h4:2147483648≤v
     · have f2:(2147483648≤v)=True:=eq_true h4;have ho:oneB v 3=false:=by cases h:oneB v 3 with
        |false=>rfl
        |true=>exact absurd (hoe.1 h) (by omega)
       refine gy8 e1 e2 e3 e4 e5 e6 f1 f2 ?_;refine ⟨4,⟨by omega,q0O hall ho⟩,by dsimp only;omega,rfl,?_⟩
       with_reducible refine sxE ?_;trivial
     have f2:(2147483648≤v)=False:=eq_false h4;refine uQ 21 _ ?_;with_reducible refine sy6 e1 e2 e3 e4 f1 f2 ?_
     refine q7o rfl (σ:=fun h=>h) ⟨?_,?_,rfl,rfl,rfl,rfl,Ai _,fun _ h0=>absurd h0 (A5 0)⟩ (q1m v 4 (by decide) (by decide) (q2b (k:=3) (by decide) (by omega) (hoe.2 (by omega)) hall))
     · repeat (first|exact trivial|exact rfl|refine And.intro ?_ ?_)
     repeat (first|exact trivial|exact rfl|refine And.intro ?_ ?_)
   · have e1:IntKind.i64.wrap (8* ((5:Nat):Int))=40:=by decide
     have e2:IntKind.i64.wrap ((40:Int) -1)=39:=by decide
     have e3:IntKind.i64.wrap (1*2^ min 39 64)=549755813888:=by decide
     have e4:IntKind.i64.wrap (0- (549755813888:Int))= -549755813888:=by decide
     have e5:IntKind.i64.wrap (((5:Nat):Int)+1)=((6:Nat):Int):=by decide
     have e6:((((6:Nat):Int))=8)=False:=by decide
     have hoe:oneB v 4=true ↔ (-549755813888≤v∧v<549755813888):=by
      simp only [oneB,restN,fdiv256,Am,decide_eq_true_eq];omega
     by_cases h3:v< -549755813888
     · have f1:(v< -549755813888)=True:=eq_true h3;have ho:oneB v 4=false:=by cases h:oneB v 4 with
        |false=>rfl
        |true=>exact absurd (hoe.1 h) (by omega)
       refine gy8 e1 e2 e3 e4 e5 e6 f1 f1 ?_;refine ⟨5,⟨by omega,q0O hall ho⟩,by dsimp only;omega,rfl,?_⟩
       with_reducible refine sxE ?_;trivial
     have f1:(v< -549755813888)=False:=eq_false h3;by_cases h4:549755813888≤v
     · have f2:(549755813888≤v)=True:=eq_true h4;have ho:oneB v 4=false:=by cases h:oneB v 4 with
        |false=>rfl
        |true=>exact absurd (hoe.1 h) (by omega)
       refine gy8 e1 e2 e3 e4 e5 e6 f1 f2 ?_;refine ⟨5,⟨by omega,q0O hall ho⟩,by dsimp only;omega,rfl,?_⟩
       with_reducible refine sxE ?_;trivial
     have f2:(549755813888≤v)=False:=eq_false h4;refine uQ 21 _ ?_;with_reducible refine sy6 e1 e2 e3 e4 f1 f2 ?_
     refine q7o rfl (σ:=fun h=>h) ⟨?_,?_,rfl,rfl,rfl,rfl,Ai _,fun _ h0=>absurd h0 (A5 0)⟩ (q1m v 5 (by decide) (by decide) (q2b (k:=4) (by decide) (by omega) (hoe.2 (by omega)) hall))
     · repeat (first|exact trivial|exact rfl|refine And.intro ?_ ?_)
     repeat (first|exact trivial|exact rfl|refine And.intro ?_ ?_)
   · have e1:IntKind.i64.wrap (8* ((6:Nat):Int))=48:=by decide
     have e2:IntKind.i64.wrap ((48:Int) -1)=47:=by decide
     have e3:IntKind.i64.wrap (1*2^ min 47 64)=140737488355328:=by decide
     have e4:IntKind.i64.wrap (0- (140737488355328:Int))= -140737488355328:=by decide
     have e5:IntKind.i64.wrap (((6:Nat):Int)+1)=((7:Nat):Int):=by decide
     have e6:((((7:Nat):Int))=8)=False:=by decide
     have hoe:oneB v 5=true ↔ (-140737488355328≤v∧v<140737488355328):=by
      simp only [oneB,restN,fdiv256,Am,decide_eq_true_eq];omega
     by_cases h3:v< -140737488355328
     · have f1:(v< -140737488355328)=True:=eq_true h3;have ho:oneB v 5=false:=by cases h:oneB v 5 with
        |false=>rfl
        |true=>exact absurd (hoe.1 h) (by omega)
       refine gy8 e1 e2 e3 e4 e5 e6 f1 f1 ?_;refine ⟨6,⟨by omega,q0O hall ho⟩,by dsimp only;omega,rfl,?_⟩
       with_reducible refine sxE ?_;trivial
     have f1:(v< -140737488355328)=False:=eq_false h3;by_cases h4:140737488355328≤v
     · have f2:(140737488355328≤v)=True:=eq_true h4;have ho:oneB v 5=false:=by cases h:oneB v 5 with
        |false=>rfl
        |true=>exact absurd (hoe.1 h) (by omega)
       refine gy8 e1 e2 e3 e4 e5 e6 f1 f2 ?_;refine ⟨6,⟨by omega,q0O hall ho⟩,by dsimp only;omega,rfl,?_⟩
       with_reducible refine sxE ?_;trivial
     have f2:(140737488355328≤v)=False:=eq_false h4;refine uQ 21 _ ?_;with_reducible refine sy6 e1 e2 e3 e4 f1 f2 ?_
     refine q7o rfl (σ:=fun h=>h) ⟨?_,?_,rfl,rfl,rfl,rfl,Ai _,fun _ h0=>absurd h0 (A5 0)⟩ (q1m v 6 (by decide) (by decide) (q2b (k:=5) (by decide) (by omega) (hoe.2 (by omega)) hall))
     · repeat (first|exact trivial|exact rfl|refine And.intro ?_ ?_)
     repeat (first|exact trivial|exact rfl|refine And.intro ?_ ?_)
   have e1:IntKind.i64.wrap (8* ((7:Nat):Int))=56:=by decide
   have e2:IntKind.i64.wrap ((56:Int) -1)=55:=by decide
   have e3:IntKind.i64.wrap (1*2^ min 55 64)=36028797018963968:=by decide
   have e4:IntKind.i64.wrap (0- (36028797018963968:Int))= -36028797018963968:=by decide
   have e5:IntKind.i64.wrap (((7:Nat):Int)+1)=((8:Nat):Int):=by decide
   have e6:((((8:Nat):Int))=8)=True:=by decide
   have hoe:oneB v 6=true ↔ (-36028797018963968≤v∧v<36028797018963968):=by
    simp only [oneB,restN,fdiv256,Am,decide_eq_true_eq];omega
   by_cases h3:v< -36028797018963968
   · have f1:(v< -36028797018963968)=True:=eq_true h3;have ho:oneB v 6=false:=by cases h:oneB v 6 with
      |false=>rfl
      |true=>exact absurd (hoe.1 h) (by omega)
     refine uQ 35 _ ?_;simp (maxSteps:=3000000) only [e1,e2,e3,e4,e5,e6,f1,go_sem,↓zA,↓reduceIte,↓reduceDIte] <;>try simp only [zB]
     refine q7o rfl (σ:=fun h=>h) ⟨?_,?_,rfl,rfl,rfl,rfl,Ai _,fun _ h0=>absurd h0 (A5 0)⟩ (q1m v 8 (by decide) (by decide) (q2b (k:=7) (by decide) (by omega) (by simp only [oneB,restN,fdiv256,Am,decide_eq_true_eq];omega) (q0O hall ho)))
     · repeat (first|exact trivial|exact rfl|refine And.intro ?_ ?_)
     repeat (first|exact trivial|exact rfl|refine And.intro ?_ ?_)
   have f1:(v< -36028797018963968)=False:=eq_false h3;by_cases h4:36028797018963968≤v
   · have f2:(36028797018963968≤v)=True:=eq_true h4;have ho:oneB v 6=false:=by cases h:oneB v 6 with
      |false=>rfl
      |true=>exact absurd (hoe.1 h) (by omega)
     refine uQ 35 _ ?_;simp (maxSteps:=3000000) only [e1,e2,e3,e4,e5,e6,f1,f2,go_sem,↓zA,↓reduceIte,↓reduceDIte] <;>try simp only [zB]
     refine q7o rfl (σ:=fun h=>h) ⟨?_,?_,rfl,rfl,rfl,rfl,Ai _,fun _ h0=>absurd h0 (A5 0)⟩ (q1m v 8 (by decide) (by decide) (q2b (k:=7) (by decide) (by omega) (by simp only [oneB,restN,fdiv256,Am,decide_eq_true_eq];omega) (q0O hall ho)))
     · repeat (first|exact trivial|exact rfl|refine And.intro ?_ ?_)
     repeat (first|exact trivial|exact rfl|refine And.intro ?_ ?_)
   have f2:(36028797018963968≤v)=False:=eq_false h4;refine uQ 21 _ ?_;with_reducible refine sy6 e1 e2 e3 e4 f1 f2 ?_
   refine q7o rfl (σ:=fun h=>h) ⟨?_,?_,rfl,rfl,rfl,rfl,Ai _,fun _ h0=>absurd h0 (A5 0)⟩ (q1m v 7 (by decide) (by decide) (q2b (k:=6) (by decide) (by omega) (hoe.2 (by omega)) hall))
   · repeat (first|exact trivial|exact rfl|refine And.intro ?_ ?_)
   repeat (first|exact trivial|exact rfl|refine And.intro ?_ ?_)
 unfold intS;rw [if_neg (by omega)]
def lnR(b:List UInt8)(a:Nat):Nat×Nat×Nat:=
 if b.length≤a then (0,0,4)
 else if (b.getD a 0).toNat<128 then ((b.getD a 0).toNat,a+1,0)
 else if (b.getD a 0).toNat<129∨131< (b.getD a 0).toNat then (0,0,6)
 else if b.length<a+1+ ((b.getD a 0).toNat-128) then (0,0,4)
 else if beN ((b.drop (a+1)).take ((b.getD a 0).toNat-128)) <minLen ((b.getD a 0).toNat-128) then (0,0,6)
 else (beN ((b.drop (a+1)).take ((b.getD a 0).toNat-128)),a+1+ ((b.getD a 0).toNat-128),0)
theorem j3q(b:List UInt8)(a:Nat)(ha:a≤b.length)(hb:b.length≤1099511627776):PC Tryz.prog 108 [.isl .u8 b,rI a] (.tup [rI (lnR b a).1,rI (lnR b a).2.1,rI (lnR b a).2.2]):=by
 refine q0p rfl rfl ?_;unfold lnR;by_cases h0:b.length≤a
 · have f0:(((b.length:Nat):Int)≤((a:Nat):Int))=True:=eq_true (by omega)
   rw [if_pos h0];refine ry1 fi108 f0 ?_;first|rfl|trivial
 rw [if_neg h0];have f0:(((b.length:Nat):Int)≤((a:Nat):Int))=False:=eq_false (by omega)
 have hx:(b.getD a 0).toNat<256:=Bj _;have hd:b.getD a Ty.u8.dflt=b.getD a 0:=rfl;generalize hf:(b.getD a 0).toNat=f at*;have e0:IntKind.i64.wrap ((f:Nat):Int)=((f:Nat):Int):=wrapi (by omega)
 have e1:IntKind.i64.wrap (((a:Nat):Int)+1)=((a+1:Nat):Int):=by rw [wrapi (by omega)];omega
 by_cases h1:f<128
 · have f1:(((f:Nat):Int) <128)=True:=eq_true (by omega)
   rw [if_pos h1];refine q0Z fi108 (q0r mixed 600 _ ?_);simp (maxSteps:=3000000) only [ir108,f0,hd,hf,e0,e1,f1,go_sem,↓zA,↓reduceIte,↓reduceDIte] <;>try simp only [zB]
   omega
 rw [if_neg h1];have f1:(((f:Nat):Int) <128)=False:=eq_false (by omega)
 by_cases h2:f<129∨131<f
 · rw [if_pos h2];by_cases h2a:f<129
   · have f2:(((f:Nat):Int) <129)=True:=eq_true (by omega)
     refine q0Z fi108 (q0r mixed 600 _ ?_);simp (maxSteps:=3000000) only [ir108,f0,hd,hf,e0,e1,f1,f2,go_sem,↓zA,↓reduceIte,↓reduceDIte] <;>try simp only [zB]
     exact ⟨by omega,rfl⟩
   have f2:(((f:Nat):Int) <129)=False:=eq_false (by omega)
   have f3:(131< ((f:Nat):Int))=True:=eq_true (by omega)
   refine q0Z fi108 (q0r mixed 600 _ ?_);simp (maxSteps:=3000000) only [ir108,f0,hd,hf,e0,e1,f1,f2,f3,go_sem,↓zA,↓reduceIte,↓reduceDIte] <;>try simp only [zB]
   exact ⟨by omega,rfl⟩
 rw [if_neg h2];have f2:(((f:Nat):Int) <129)=False:=eq_false (by omega)
 have f3:(131< ((f:Nat):Int))=False:=eq_false (by omega)
 have e2:IntKind.i64.wrap (((f:Nat):Int) -128)=((f-128:Nat):Int):=by rw [wrapi (by omega)];omega
 generalize hk:f-128=k at*;have e3:IntKind.i64.wrap (((a+1:Nat):Int)+ ((k:Nat):Int))=((a+1+k:Nat):Int):=by rw [wrapi (by omega)];omega
 by_cases h4:b.length<a+1+k
 · rw [if_pos h4];have f4:(((b.length:Nat):Int) < ((a+1+k:Nat):Int))=True:=eq_true (by omega)
   refine q0Z fi108 (q0r mixed 600 _ ?_);simp (maxSteps:=3000000) only [ir108,f0,hd,hf,e0,e1,f1,f2,f3,e2,e3,f4,go_sem,↓zA,↓reduceIte,↓reduceDIte] <;>try simp only [zB]
   exact ⟨by omega,rfl⟩
 rw [if_neg h4];have f4:(((b.length:Nat):Int) < ((a+1+k:Nat):Int))=False:=eq_false (by omega)
 refine q0Z fi108 (q0r mixed 600 _ ?_);simp (maxSteps:=3000000) only [ir108,f0,hd,hf,e0,e1,f1,f2,f3,e2,e3,f4,go_sem,↓zA,↓reduceIte,↓reduceDIte] <;>try simp only [zB]
 refine ⟨by omega,?_⟩
 refine q0d (ι:=Nat) (fun i=>[(9,rI (beN ((b.drop (a+1)).take i):Nat)),(10,rI i)]) (fun _=>[]) (fun i=>k-i) (fun i=>i≤k) 0 (Ai _) rfl ?_ fun i hi=> ?_
 · with_reducible refine sxE ?_
   rfl
 have hwr:=wsx i (by omega)
 have hdl:(b.drop (a+1)).length=b.length- (a+1):=Al;have hbn:=q3X ((b.drop (a+1)).take i);have hbl:((b.drop (a+1)).take i).length=i:=by rw [Aj];omega
 rw [hbl] at hbn;have hp3:256^ i≤256^ 3:=AZ (by decide) (by omega)
 have hbb:beN ((b.drop (a+1)).take i) <16777216:=by omega
 by_cases hlt:i<k
 · have g1:(((i:Nat):Int) < ((k:Nat):Int))=True:=eq_true (by omega)
   have hst:=q3A (b.drop (a+1)) i (by omega)
   have hgd:(b.drop (a+1)).getD i 0=b.getD (a+1+i) 0:=by simp [Aa]
   have hdd:b.getD (a+1+i) Ty.u8.dflt=b.getD (a+1+i) 0:=rfl;have hcx:(b.getD (a+1+i) 0).toNat<256:=Bj _;rw [hgd] at hst;generalize hcc:(b.getD (a+1+i) 0).toNat=c at*;generalize beN ((b.drop (a+1)).take i)=s at*;have g2:IntKind.i64.wrap (((a+1:Nat):Int)+ ((i:Nat):Int))=((a+1+i:Nat):Int):=by rw [wrapi (by omega)];omega
   have g3:IntKind.i64.wrap (256* ((s:Nat):Int))=((256*s:Nat):Int):=by rw [wrapi (by omega)];omega
   have g4:IntKind.i64.wrap ((c:Nat):Int)=((c:Nat):Int):=wrapi (by omega)
   have g5:IntKind.i64.wrap (((256*s:Nat):Int)+ ((c:Nat):Int))=((s*256+c:Nat):Int):=by rw [wrapi (by omega)];omega
   refine gy8 g1 e1 g2 g3 hdd hcc g4 g5 ?_;refine ⟨by omega,i+1,hlt,by dsimp only;omega,rfl,?_⟩
   with_reducible refine sy2 hwr hst ?_;trivial
 obtain rfl:i=k:=by omega
 have g1:(((i:Nat):Int) < ((i:Nat):Int))=False:=eq_false (by omega)
 generalize hsb:beN ((b.drop (a+1)).take i)=s at*;rcases (show i=1∨i=2∨i=3 by omega) with rfl|rfl|rfl
 · have d1:((((1:Nat):Int))=1)=True:=by decide
   have d2:((((1:Nat):Int))=2)=False:=by decide
   have d3:((((1:Nat):Int))=3)=False:=by decide
   by_cases hm:s<128
   · have m1:(((s:Nat):Int) <128)=True:=eq_true (by omega)
     rw [if_pos (show s<minLen 1 from hm)]
     refine gy8 g1 e1 e3 d1 d2 d3 m1 m1 ?_;first|rfl|trivial
   have m1:(((s:Nat):Int) <128)=False:=eq_false (by omega)
   rw [if_neg (show ¬s<minLen 1 from hm)]
   refine gy8 g1 e1 e3 d1 d2 d3 m1 m1 ?_;trivial
 · have d1:((((2:Nat):Int))=1)=False:=by decide
   have d2:((((2:Nat):Int))=2)=True:=by decide
   have d3:((((2:Nat):Int))=3)=False:=by decide
   by_cases hm:s<256
   · have m1:(((s:Nat):Int) <256)=True:=eq_true (by omega)
     rw [if_pos (show s<minLen 2 from hm)]
     refine gy8 g1 e1 e3 d1 d2 d3 m1 m1 ?_;first|rfl|trivial
   have m1:(((s:Nat):Int) <256)=False:=eq_false (by omega)
   rw [if_neg (show ¬s<minLen 2 from hm)]
   refine gy8 g1 e1 e3 d1 d2 d3 m1 m1 ?_;trivial
 have d1:((((3:Nat):Int))=1)=False:=by decide
 have d2:((((3:Nat):Int))=2)=False:=by decide
 have d3:((((3:Nat):Int))=3)=True:=by decide
 by_cases hm:s<65536
 · have m1:(((s:Nat):Int) <65536)=True:=eq_true (by omega)
   rw [if_pos (show s<minLen 3 from hm)]
   refine gy8 g1 e1 e3 d1 d2 d3 m1 m1 ?_;first|rfl|trivial
 have m1:(((s:Nat):Int) <65536)=False:=eq_false (by omega)
 rw [if_neg (show ¬s<minLen 3 from hm)]
 refine gy8 g1 e1 e3 d1 d2 d3 m1 m1 ?_;trivial
theorem z8k(b:List UInt8)(a:Nat)(ha:a<b.length):
 meas (b.drop a)=if (lnR b (a+1)).2.2=0 then (if b.length< (lnR b (a+1)).2.1+ (lnR b (a+1)).1 then (0,0,4) else ((lnR b (a+1)).2.1-a,(lnR b (a+1)).2.1-a+ (lnR b (a+1)).1,0)) else (0,0,(lnR b (a+1)).2.2):=by
 have hl:(b.drop a).length=b.length-a:=Al;have h1:(b.drop a).getD 1 0=b.getD (a+1) 0:=by simp [Aa]
 have h2:(b.drop a).drop 2=b.drop (a+1+1):=by rw [Bi]
 unfold meas lnR measE;rw [hl,h1,h2];by_cases c1:b.length≤a+1
 · rw [if_pos (by omega),if_pos c1,if_neg (by decide)]
 rw [if_neg (by omega),if_neg c1]
 generalize (b.getD (a+1) 0).toNat=f at*;by_cases c2:f<128
 · rw [if_pos c2,if_pos c2,if_pos rfl];by_cases c3:b.length-a-2<f
   · rw [if_pos c3,if_pos (by show b.length<a+1+1+f;omega)]
   rw [if_neg c3,if_neg (by show ¬b.length<a+1+1+f;omega)]
   simp only [Prod.mk.injEq,and_true];omega
 rw [if_neg c2,if_neg c2];by_cases c3:f<129∨131<f
 · rw [if_pos (by omega),if_pos c3,if_neg (by decide)]
 rw [if_neg (by omega),if_neg c3]
 by_cases c4:b.length<a+1+1+ (f-128)
 · rw [if_pos (by omega),if_pos c4,if_neg (by decide)]
 rw [if_neg (by omega),if_neg c4]
 by_cases c5:beN ((b.drop (a+1+1)).take (f-128)) <minLen (f-128)
 · rw [if_pos c5,if_pos c5,if_neg (by decide)]
 rw [if_neg c5,if_neg c5,if_pos rfl];generalize beN ((b.drop (a+1+1)).take (f-128))=n at*;by_cases c6:b.length-a- (2+ (f-128)) <n
 · rw [if_pos c6,if_pos (by show b.length<a+1+1+ (f-128)+n;omega)]
 rw [if_neg c6,if_neg (by show ¬b.length<a+1+1+ (f-128)+n;omega)]
 simp only [Prod.mk.injEq,and_true];omega
theorem j3C(b:List UInt8)(a:Nat):(lnR b a).1<16777216∧((lnR b a).2.2=0→a< (lnR b a).2.1∧(lnR b a).2.1≤b.length+4):=by
 unfold lnR;have hx:(b.getD a 0).toNat<256:=Bj _;generalize (b.getD a 0).toNat=f at*;split
 · exact ⟨by decide,fun h=>by cases h⟩
 split
 · exact ⟨by dsimp only;omega,fun _=>by dsimp only;omega⟩
 split
 · exact ⟨by decide,fun h=>by cases h⟩
 split
 · exact ⟨by decide,fun h=>by cases h⟩
 split
 · exact ⟨by decide,fun h=>by cases h⟩
 refine ⟨?_,fun _=>by dsimp only;omega⟩
 have h1:=q3X ((b.drop (a+1)).take (f-128));have h2:256^ ((b.drop (a+1)).take (f-128)).length≤256^ 3:=AZ (by decide) (by rw [Aj];omega)
 dsimp only;omega
def rdR(b:List UInt8)(a:Nat)(tag:UInt8):SV:=if takeE tag (b.drop a)=0 then .tup [.isl .u8 (takeC (b.drop a)),rI ((a+takeN (b.drop a):Nat):Int),rI 0] else .tup [.isl .u8 [],rI a,rI (takeE tag (b.drop a):Nat)]
theorem q3E(b:List UInt8)(a:Nat)(t:Int)(tag:UInt8)(ht:t=tag.toNat)(ha:a≤b.length)(hb:b.length≤1099511627776):PC Tryz.prog 73 [.isl .u8 b,rI a,rI t] (rdR b a tag):=by
 subst ht;have hl:(b.drop a).length=b.length-a:=Al;have h0:(b.drop a).getD 0 0=b.getD a 0:=by simp [Aa]
 unfold rdR takeE;rw [hl,h0];by_cases c0:b.length≤a
 · have f0:(((b.length:Nat):Int)≤((a:Nat):Int))=True:=eq_true (by omega)
   rw [if_pos (show b.length-a=0 by omega),if_neg (by decide)]
   refine q0i rfl rfl ?_;refine ry1 fi73 f0 ?_;first|rfl|trivial
 have f0:(((b.length:Nat):Int)≤((a:Nat):Int))=False:=eq_false (by omega)
 rw [if_neg (show ¬b.length-a=0 by omega)]
 have hd:b.getD a Ty.u8.dflt=b.getD a 0:=rfl;have hx:(b.getD a 0).toNat<256:=Bj _;have htt:=tag.toNat_lt;have e0:IntKind.i64.wrap (((b.getD a 0).toNat:Nat):Int)=(((b.getD a 0).toNat:Nat):Int):=wrapi (by omega)
 have e1:IntKind.i64.wrap (((a:Nat):Int)+1)=((a+1:Nat):Int):=by rw [wrapi (by omega)];omega
 by_cases c1:b.getD a 0=tag
 · have f1:((((b.getD a 0).toNat:Nat):Int)=((tag.toNat:Nat):Int))=True:=eq_true (by rw [c1])
   have hm:=z8k b a (by omega)
   have hln:=j3q b (a+1) (by omega) hb
   have hle:=j3C b (a+1);unfold takeC takeN;rw [if_neg (show ¬(b.getD a 0≠tag) from fun h=>h c1),hm]
   generalize lnR b (a+1)=L at*;obtain ⟨n,e,r⟩:=L;dsimp only at*;by_cases c2:r=0
   · subst c2;have e2:IntKind.i64.wrap (((e:Nat):Int)+ ((n:Nat):Int))=((e+n:Nat):Int):=by have:=hle.2 rfl;rw [wrapi (by omega)];omega
     rw [if_pos rfl];by_cases c3:b.length<e+n
     · have f3:(((b.length:Nat):Int) < ((e+n:Nat):Int))=True:=eq_true (by omega)
       rw [if_pos c3,if_neg (by decide)]
       refine q0i rfl rfl ?_;refine ry5 fi73 f0 hd e0 e1 f1 ?_;refine ⟨by omega,q0a hln ?_⟩
       refine gy2 e2 f3 ?_;first|rfl|trivial
     have f3:(((b.length:Nat):Int) < ((e+n:Nat):Int))=False:=eq_false (by omega)
     rw [if_neg c3,if_pos rfl];refine q0i rfl rfl ?_;refine ry5 fi73 f0 hd e0 e1 f1 ?_;refine ⟨by omega,q0a hln ?_⟩
     refine gy2 e2 f3 ?_;have h1:=(hle.2 rfl).1;refine ⟨⟨by omega,by omega,by omega⟩,?_,by rw [show a+ (e-a+n)=e+n by omega]⟩
     rw [CM,Bi,show a+ (e-a+n)=e+n by omega,show a+ (e-a)=e by omega]
   have f2:(((r:Nat):Int)=0)=False:=eq_false (by omega)
   rw [if_neg c2,if_neg (by exact c2)]
   refine q0i rfl rfl ?_;refine ry5 fi73 f0 hd e0 e1 f1 ?_;refine ⟨by omega,q0a hln ?_⟩
   refine gy1 f2 ?_;trivial
 have f1:((((b.getD a 0).toNat:Nat):Int)=((tag.toNat:Nat):Int))=False:=eq_false (fun h=>c1 (BF.mp (by omega)))
 rw [if_pos c1,if_neg (by decide)]
 refine q0i rfl rfl ?_;refine ry5 fi73 f0 hd e0 f1 f1 ?_;exact ⟨by omega,rfl⟩
theorem j4n(b:List UInt8)(a:Nat)(ha:a≤b.length)(hb:b.length≤1099511627776):PC Tryz.prog 110 [.isl .u8 b,rI a] (rdR b a 4):=by
 have h:=q3E b a 4 4 (by decide) ha hb
 have hc:(rdR b a 4).clean=true:=by unfold rdR;split<;>rfl
 unfold rdR at*;split at h;all_goals
  rename_i h0;first|rw [if_pos h0] at hc⊢ |rw [if_neg h0] at hc⊢
  refine q0i rfl rfl ?_;refine rQ fi110 ?_;refine cQ h ?_;trivial
theorem z4z{n:Nat}(h:n≤30):(tagB n).toNat=160+n:=by
 unfold tagB;rw [show ((160:Int)+ (n:Int))=((160+n:Nat):Int) by omega,q7J]
 omega
theorem z1o(b:List UInt8)(a n:Nat)(hn:n≤30)(ha:a≤b.length)(hb:b.length≤1099511627776):PC Tryz.prog 109 [.isl .u8 b,rI a,rI n] (rdR b a (tagB n)):=by
 have h:=q3E b a (160+n) (tagB n) (by rw [z4z hn];omega) ha hb
 have w:IntKind.i64.wrap (160+ (n:Int))=160+ (n:Int):=wrapi (by omega)
 unfold rdR at*;split at h;all_goals
  rename_i h0;first|rw [if_pos h0] |rw [if_neg h0]
  refine q0i rfl rfl ?_;refine ry1 fi109 w ?_;refine cQ h ?_;trivial
theorem q0W(b:List UInt8)(k e:Nat):PC Tryz.prog 76 [.isl .u8 b,rI k,rI e] (rI ((if e=0∧k<b.length then 6 else e:Nat):Int)):=by
 refine q0p rfl rfl ?_;by_cases h0:e=0
 · subst h0;by_cases h1:k<b.length
   · have f1:(((k:Nat):Int) < ((b.length:Nat):Int))=True:=eq_true (by omega)
     rw [if_pos ⟨rfl,h1⟩];refine ry1 fi76 f1 ?_;first|rfl|trivial
   have f1:(((k:Nat):Int) < ((b.length:Nat):Int))=False:=eq_false (by omega)
   rw [if_neg (fun h=>h1 h.2)];refine ry1 fi76 f1 ?_;trivial
 have f0:(((e:Nat):Int)=0)=False:=eq_false (by omega)
 rw [if_neg (fun h=>h0 h.1)];refine ry1 fi76 f0 ?_;trivial
def prO(a:Nat):Except Nat (Int×Nat)→SV
 |.ok (v,k)=>.tup [rI v,rI ((a+k:Nat):Int),rI 0]
 |.error e=>.tup [rI 0,rI a,rI e]
attribute [go_sem] prO
theorem j1e(b:List UInt8)(a:Nat)(ha:a≤b.length)(hb:b.length≤1099511627776):PC Tryz.prog 79 [.isl .u8 b,rI a] (prO a (timeI (b.drop a))):=by
 have h:=q3E b a 24 24 (by decide) ha hb
 unfold timeI timeP rdP;unfold rdR at h;by_cases h0:takeE 24 (b.drop a)=0
 · rw [if_pos h0] at h⊢;have hcl:(takeC (b.drop a)).length≤1099511627776:=q2s hb;generalize takeC (b.drop a)=c at*;generalize takeN (b.drop a)=k at*;have hp:∀o:Option Nat,(prO a (match (match o with|some v=>(Except.ok (v,k):Except Nat (Nat×Nat)) |none=>.error 6) with|.ok (v,k)=>.ok ((v:Int),k) |.error e=>.error e)).clean=true:=fun o=>by cases o<;>rfl
   unfold decTime;refine q0p ?_ ?_ ?_
   · kernel_rfl
   · split<;>rfl
   refine rQ fi79 ?_;refine cQ h ?_;refine q0d (ι:=Nat) (fun i=>[(10,rI (beN (c.take i):Nat)),(11,rI i)]) (fun _=>[]) (fun i=>6-i) (fun i=>i≤c.length∧i≤6) 0 ⟨Ai _,Ai _⟩ rfl ?_ fun i hi=> ?_
   · with_reducible refine sxE ?_
     rfl
   have hwr:=wsx i (by omega)
   have hbn:=q3X (c.take i);rw [show (c.take i).length=i by rw [Aj];omega] at hbn
   have hp6:256^ i≤256^ 6:=AZ (by decide) hi.2
   by_cases hlt:i<c.length
   · have g1:(((i:Nat):Int) < ((c.length:Nat):Int))=True:=eq_true (by omega)
     by_cases h6:i<6
     · have g2:(((i:Nat):Int) <6)=True:=eq_true (by omega)
       have hp5:256^ i≤256^ 5:=AZ (by decide) (by omega)
       have hst:=q3A c i hlt;have hd:c.getD i Ty.u8.dflt=c.getD i 0:=rfl;have hx:(c.getD i 0).toNat<256:=Bj _;generalize hcx:(c.getD i 0).toNat=x at*;generalize beN (c.take i)=s at*;have g3:IntKind.i64.wrap (256* ((s:Nat):Int))=((256*s:Nat):Int):=by rw [wrapi (by omega)];omega
       have g4:IntKind.i64.wrap ((x:Nat):Int)=((x:Nat):Int):=wrapi (by omega)
       have g5:IntKind.i64.wrap (((256*s:Nat):Int)+ ((x:Nat):Int))=((s*256+x:Nat):Int):=by rw [wrapi (by omega)];omega
       refine gy8 g1 g2 g3 hd hcx g4 g5 g5 ?_;refine ⟨by omega,i+1,⟨by omega,by omega⟩,by dsimp only;omega,rfl,?_⟩
       with_reducible refine sy2 hwr hst ?_;trivial
     have g2:(((i:Nat):Int) <6)=False:=eq_false (by omega)
     have g3:(((c.length:Nat):Int)=6)=False:=eq_false (by omega)
     rw [if_neg (fun h=>by omega)]
     refine gy3 g1 g2 g3 ?_;first|rfl|trivial
   have g1:(((i:Nat):Int) < ((c.length:Nat):Int))=False:=eq_false (by omega)
   obtain rfl:i=c.length:=by omega
   rw [AE] at*;by_cases h6:c.length=6
   · have g3:(((c.length:Nat):Int)=6)=True:=eq_true (by omega)
     by_cases h7:beN c≤1099511627776
     · have g4:(1099511627776< ((beN c:Nat):Int))=False:=eq_false (by omega)
       rw [if_pos ⟨h6,h7⟩];refine gy3 g1 g3 g4 ?_;first|rfl|trivial
     have g4:(1099511627776< ((beN c:Nat):Int))=True:=eq_true (by omega)
     rw [if_neg (fun h=>h7 h.2)];refine gy3 g1 g3 g4 ?_;first|rfl|trivial
   have g3:(((c.length:Nat):Int)=6)=False:=eq_false (by omega)
   rw [if_neg (fun h=>h6 h.1)];refine gy2 g1 g3 ?_;first|rfl|trivial
 rw [if_neg h0] at h⊢;have f0:(((takeE 24 (b.drop a):Nat):Int)=0)=False:=eq_false (by omega)
 refine q0p rfl rfl ?_;refine rQ fi79 ?_;refine cy1 h f0 ?_;first|rfl|trivial
theorem j1j{t:UInt8}{r:List UInt8}(h:takeE t r=0)(hs:(takeC r).length<128):r.take (takeN r)=tlv t (takeC r):=by
 unfold takeE at h;split at h
 · cases h
 split at h
 · cases h
 rename_i h0 ht;have ht:r.getD 0 0=t:=Classical.byContradiction fun hn=>ht hn;obtain ⟨x,r1,rfl⟩:∃x r1,r=x :: r1:=by cases r with
  |nil=>exact absurd rfl h0
  |cons x r1=>exact ⟨x,r1,rfl⟩
 have hx:x=t:=ht;subst hx;have hc:takeC (x :: r1)=((x :: r1).take (meas (x :: r1)).2.1).drop (meas (x :: r1)).1:=rfl;have hn:takeN (x :: r1)=(meas (x :: r1)).2.1:=rfl;rw [hn];generalize hC:takeC (x :: r1)=C at*;cases r1 with
 |nil=>exact absurd h (by unfold meas;simp)
 |cons y r2=>
  have hg:(x :: y :: r2).getD 1 0=y:=rfl;have hl:(x :: y :: r2).length=r2.length+2:=rfl;unfold meas measE at h hc⊢;rw [hg,hl] at h hc⊢;rw [if_neg (by omega)] at h hc⊢
  by_cases c1:y.toNat<128
  · rw [if_pos c1] at h hc⊢;by_cases c2:r2.length+2-2<y.toNat
    · rw [if_pos c2] at h;cases h
    rw [if_neg c2] at hc⊢;dsimp only at hc⊢;have e1:(x :: y :: r2).take (2+y.toNat)=x :: y :: r2.take y.toNat:=by rw [Bo];rfl
    rw [e1] at hc⊢;have e2:C=r2.take y.toNat:=hc;have e3:C.length=y.toNat:=by rw [e2,Aj];omega
    rw [←e2];unfold tlv lenS;rw [e3,if_pos c1];have:byteOf ((y.toNat:Nat):Int)=y:=BF.mp (by rw [q7J];omega)
    rw [this];rfl
  exfalso;rw [if_neg c1] at h hc;have hy:=y.toNat_lt;by_cases c3:y.toNat-128<1∨3<y.toNat-128
  · rw [if_pos c3] at h;cases h
  rw [if_neg c3] at h hc;by_cases c4:r2.length+2<2+ (y.toNat-128)
  · rw [if_pos c4] at h;cases h
  rw [if_neg c4] at h hc;generalize hbn:beN (((x :: y :: r2).drop 2).take (y.toNat-128))=n at*;by_cases c5:n<minLen (y.toNat-128)
  · rw [if_pos c5] at h;cases h
  rw [if_neg c5] at h hc;by_cases c6:r2.length+2- (2+ (y.toNat-128)) <n
  · rw [if_pos c6] at h;cases h
  rw [if_neg c6] at hc;dsimp only at hc;have e3:C.length=n:=by rw [hc,Al,Aj];simp only [AM];omega
  have:128≤minLen (y.toNat-128):=by
   rcases (show y.toNat-128=1∨y.toNat-128=2∨y.toNat-128=3 by omega) with h|h|h<;>rw [h] <;>decide
  omega
theorem q8X(t:UInt8){r:List UInt8}(h:takeE t r=0):takeN r≤r.length:=(z1e (z2j h)).2.2
theorem j0l(b:List UInt8)(a:Nat)(ha:a≤b.length)(hb:b.length≤1099511627776):PC Tryz.prog 80 [.isl .u8 b,rI a] (prO a (intP (b.drop a))):=by
 have h:=q3E b a 2 2 (by decide) ha hb
 unfold intP rdP;unfold rdR at h;by_cases h0:takeE 2 (b.drop a)=0
 · rw [if_pos h0] at h⊢;have hcl:(takeC (b.drop a)).length≤1099511627776:=q2s hb;have htl:= @j1j 2 (b.drop a) h0;have hnl:=q8X 2 h0;rw [Al] at hnl;rw [CM] at htl;generalize takeC (b.drop a)=c at*;generalize takeN (b.drop a)=k at*;by_cases hlen:c.length<1∨8<c.length
   · have hdn:decInt c=none:=by unfold decInt;rw [if_neg (by omega)]
     rw [hdn];refine q0p rfl rfl ?_;by_cases h1:c.length<1
     · have f1:(((c.length:Nat):Int) <1)=True:=eq_true (by omega)
       refine rQ fi80 ?_;refine cy1 h f1 ?_;first|rfl|trivial
     have f1:(((c.length:Nat):Int) <1)=False:=eq_false (by omega)
     have f2:(8< ((c.length:Nat):Int))=True:=eq_true (by omega)
     refine rQ fi80 ?_;refine q0a h ?_;refine gy2 f1 f2 ?_;first|rfl|trivial
   have f1:(((c.length:Nat):Int) <1)=False:=eq_false (by omega)
   have f2:(8< ((c.length:Nat):Int))=False:=eq_false (by omega)
   have htl:=htl (by omega)
   have hel:elemS 2 [c]=tlv 2 c:=by unfold elemS;simp only [AR,BA,Ah];rw [if_pos (by omega)]
   rw [←hel] at htl;have hdi:decInt c=if intS (sgn c)=elemS 2 [c] then some (sgn c) else none:=by
    unfold decInt;by_cases he:intS (sgn c)=elemS 2 [c]
    · rw [if_pos he,if_pos ⟨by omega,by omega,he⟩]
    rw [if_neg he,if_neg (fun h=>he h.2.2)]
   rw [hdi,←htl];have hic:=j1c (sgn c);have hsa:=z2o c;generalize hT:(b.take (a+k)).drop a=T at*;have hd1:(c.drop 1).length=c.length-1:=Al;have hx:(c.getD 0 0).toNat<256:=Bj _;have hd:c.getD 0 Ty.u8.dflt=c.getD 0 0:=rfl;have s0:sgnK c 0=if 128≤(c.getD 0 0).toNat then ((c.getD 0 0).toNat:Int) -256 else ((c.getD 0 0).toNat:Int):=by
    show sgn1 (c.getD 0 0)=_;generalize c.getD 0 0=x at*;unfold sgn1;simp only [IntKind.wrap,IntKind.bits,IntKind.signed];simp;omega
   suffices hgoal:PC Tryz.prog 80 [.isl .u8 b,rI a] (if intS (sgn c)=T then .tup [rI (sgn c),rI ((a+k:Nat):Int),rI 0] else .tup [rI 0,rI a,rI 6]) by
    by_cases he:intS (sgn c)=T
    · rw [if_pos he] at hgoal⊢;exact hgoal
    rw [if_neg he] at hgoal⊢;exact hgoal
   refine q0p rfl (by split<;>rfl) ?_
   generalize hS:sgn c=S at*;have w0:IntKind.i64.wrap (((c.getD 0 0).toNat:Nat):Int)=(((c.getD 0 0).toNat:Nat):Int):=wrapi (by omega)
   have hg:c.getD 0 0=c.getD 0 0:=rfl;by_cases hbig:128≤(c.getD 0 0).toNat
   · have f3:(128≤(((c.getD 0 0).toNat:Nat):Int))=True:=eq_true (by omega)
     have w1:IntKind.i64.wrap ((((c.getD 0 0).toNat:Nat):Int) -256)=sgnK c 0:=by rw [s0,if_pos hbig];exact wrapi (by omega)
     refine rQ fi80 ?_;refine q0a h ?_;refine gy8 f1 f2 hd w0 f3 w1 w1 w1 ?_;refine ⟨by omega,?_⟩
     refine q0d (ι:=Nat) (fun i=>[(10,rI (sgnK c i)),(11,rI ((i+1:Nat):Int))]) (fun _=>[]) (fun i=>8-i) (fun i=>i+1≤c.length) 0 (by omega) rfl ?_ fun i hi=> ?_
     · with_reducible refine sxE ?_
       rfl
     have hwr:IntKind.i64.wrap (((i+1:Nat):Int)+1)=((i+1+1:Nat):Int):=by rw [wrapi (by omega)];omega
     by_cases hlt:i+1<c.length
     · have g1:(((i+1:Nat):Int) < ((c.length:Nat):Int))=True:=eq_true (by omega)
       have hbd:=q9u c i (by omega)
       have hp:256^ i≤256^ 6:=AZ (by decide) (by omega)
       have hst:=q4E (c:=c) (i:=i) (by omega)
       have hgd:(c.drop 1).getD i 0=c.getD (i+1) 0:=by simp [Aa,Bo]
       have hdi:c.getD (i+1) Ty.u8.dflt=c.getD (i+1) 0:=rfl;have hxi:(c.getD (i+1) 0).toNat<256:=Bj _;rw [hgd] at hst;generalize hcx:(c.getD (i+1) 0).toNat=x at*;generalize sgnK c i=s at*;have g3:IntKind.i64.wrap (s*256)=s*256:=wrapi (by omega)
       have g4:IntKind.i64.wrap ((x:Nat):Int)=((x:Nat):Int):=wrapi (by omega)
       have g5:IntKind.i64.wrap (s*256+ ((x:Nat):Int))=s*256+ ((x:Nat):Int):=wrapi (by omega)
       refine gy8 g1 g3 hdi hcx g4 g5 g5 g5 ?_;refine ⟨⟨by omega,by omega⟩,i+1,by omega,by dsimp only;omega,rfl,?_⟩
       with_reducible refine sy2 hwr hst ?_;trivial
     have g1:(((i+1:Nat):Int) < ((c.length:Nat):Int))=False:=eq_false (by omega)
     have hSi:sgnK c i=S:=by rw [←hsa,show (c.drop 1).length=i by omega]
     rw [hSi];refine gy1 g1 ?_;refine ⟨by omega,q0e hic ?_⟩
     rw [hT];by_cases he:intS S=T
     · have hq:(strOf (intS S)=strOf T)=True:=eq_true (by rw [he])
       rw [if_pos he];refine gy1 hq ?_;trivial
     have hq:(strOf (intS S)=strOf T)=False:=eq_false (fun h=>he (q7m h));rw [if_neg he];refine gy1 hq ?_;trivial
   have f3:(128≤(((c.getD 0 0).toNat:Nat):Int))=False:=eq_false (by omega)
   rw [if_neg hbig] at s0;refine rQ fi80 ?_;refine q0a h ?_;refine gy8 f1 f2 hd w0 f3 f3 f3 f3 ?_;refine ⟨by omega,?_⟩
   refine q0d (ι:=Nat) (fun i=>[(10,rI (sgnK c i)),(11,rI ((i+1:Nat):Int))]) (fun _=>[]) (fun i=>8-i) (fun i=>i+1≤c.length) 0 (by omega) rfl ?_ fun i hi=> ?_
   · simp (maxSteps:=3000000) only [s0,go_sem,↓zA,↓reduceIte,↓reduceDIte] <;>try simp only [zB]
     rfl
   have hwr:IntKind.i64.wrap (((i+1:Nat):Int)+1)=((i+1+1:Nat):Int):=by rw [wrapi (by omega)];omega
   by_cases hlt:i+1<c.length
   · have g1:(((i+1:Nat):Int) < ((c.length:Nat):Int))=True:=eq_true (by omega)
     have hbd:=q9u c i (by omega)
     have hp:256^ i≤256^ 6:=AZ (by decide) (by omega)
     have hst:=q4E (c:=c) (i:=i) (by omega)
     have hgd:(c.drop 1).getD i 0=c.getD (i+1) 0:=by simp [Aa,Bo]
     have hdi:c.getD (i+1) Ty.u8.dflt=c.getD (i+1) 0:=rfl;have hxi:(c.getD (i+1) 0).toNat<256:=Bj _;rw [hgd] at hst;generalize hcx:(c.getD (i+1) 0).toNat=x at*;generalize sgnK c i=s at*;have g3:IntKind.i64.wrap (s*256)=s*256:=wrapi (by omega)
     have g4:IntKind.i64.wrap ((x:Nat):Int)=((x:Nat):Int):=wrapi (by omega)
     have g5:IntKind.i64.wrap (s*256+ ((x:Nat):Int))=s*256+ ((x:Nat):Int):=wrapi (by omega)
     refine gy8 g1 g3 hdi hcx g4 g5 g5 g5 ?_;refine ⟨⟨by omega,by omega⟩,i+1,by omega,by dsimp only;omega,rfl,?_⟩
     with_reducible refine sy2 hwr hst ?_;trivial
   have g1:(((i+1:Nat):Int) < ((c.length:Nat):Int))=False:=eq_false (by omega)
   have hSi:sgnK c i=S:=by rw [←hsa,show (c.drop 1).length=i by omega]
   rw [hSi];refine gy1 g1 ?_;refine ⟨by omega,q0e hic ?_⟩
   rw [hT];by_cases he:intS S=T
   · have hq:(strOf (intS S)=strOf T)=True:=eq_true (by rw [he])
     rw [if_pos he];refine gy1 hq ?_;trivial
   have hq:(strOf (intS S)=strOf T)=False:=eq_false (fun h=>he (q7m h));rw [if_neg he];refine gy1 hq ?_;trivial
 rw [if_neg h0] at h⊢;have f0:(((takeE 2 (b.drop a):Nat):Int)=0)=False:=eq_false (by omega)
 refine q0p rfl rfl ?_;refine rQ fi80 ?_;refine cy1 h f0 ?_;first|rfl|trivial
def iiR{α:Type}(z:α)(p:PR α)(b:List UInt8)(a n:Nat):α×Nat×Nat:=
 if takeE (tagB n) (b.drop a)=0 then match p (takeC (b.drop a)) with
  |.ok (v,k)=>(v,a+takeN (b.drop a),if k< (takeC (b.drop a)).length then 6 else 0)
  |.error e=>(z,a+takeN (b.drop a),e)
 else (z,a,takeE (tagB n) (b.drop a))
theorem z1l{α:Type}{z:α}{p:PR α}(hp:∀c e,p c= .error e→e≠0)(b:List UInt8)(a n:Nat):needP n p (b.drop a)=if (iiR z p b a n).2.2=0 then .ok ((iiR z p b a n).1,takeN (b.drop a)) else .error (iiR z p b a n).2.2:=by
 have h1:needP n p (b.drop a)=inP (tagB n) p (b.drop a):=by
  unfold needP;cases hx:nextB n (b.drop a) with
  |true=>rfl
  |false=>
   rw [if_neg (by simp)]
   unfold nextB at hx;unfold inP takeE;by_cases h0:(b.drop a).length=0
   · rw [if_pos h0,if_pos h0,if_neg (by decide)]
   rw [if_neg h0,if_neg h0];have h2:(b.drop a).getD 0 0≠tagB n:=fun h=>by
    rw [h] at hx;simp only [decide_true,Bool.and_true,decide_eq_false_iff_not,ne_eq] at hx;exact hx h0
   rw [if_pos h2,if_neg (by decide)]
 rw [h1];unfold inP iiR allP;by_cases h0:takeE (tagB n) (b.drop a)=0
 · rw [if_pos h0,if_pos h0];cases hq:p (takeC (b.drop a)) with
   |error e=>dsimp only;rw [if_neg (hp _ _ hq)]
   |ok x=>
    obtain ⟨v,k⟩:=x;dsimp only;by_cases hk:k< (takeC (b.drop a)).length
    · simp only [if_pos hk];rfl
    simp only [if_neg hk];rfl
 rw [if_neg h0,if_neg h0,if_neg h0]
theorem z2S{c:List UInt8}{e:Nat}(h:intP c= .error e):e≠0:=by
 unfold intP rdP at h;split at h
 · split at h
   · cases h
   cases h;decide
 rename_i h0;cases h;exact h0
theorem z7m(b:List UInt8)(a n:Nat)(hn:n≤30)(ha:a≤b.length)(hb:b.length≤1099511627776):PC Tryz.prog 74 [.isl .u8 b,rI a,rI n] (.tup [rI (iiR 0 intP b a n).1,rI ((iiR 0 intP b a n).2.1:Nat),rI ((iiR 0 intP b a n).2.2:Nat)]):=by
 have ht:=z1o b a n hn ha hb;unfold rdR at ht;unfold iiR;refine q0p rfl rfl ?_;by_cases h0:takeE (tagB n) (b.drop a)=0
 · rw [if_pos h0] at ht⊢;have hcl:(takeC (b.drop a)).length≤1099511627776:=q2s hb;generalize takeC (b.drop a)=c at*;generalize takeN (b.drop a)=m at*;have hi:=j0l c 0 (Ai _) hcl;rw [Az] at hi;cases hq:intP c with
   |error e=>
    rw [hq] at hi;have he:=z2S hq;have hw:=q0W c 0 e;rw [if_neg (fun h=>he h.1)] at hw;refine rQ fi74 ?_;refine cQ ht ?_;refine cQ hi ?_;refine cQ hw ?_;trivial
   |ok x=>
    obtain ⟨v,k⟩:=x;rw [hq] at hi;have hw:=q0W c (0+k) 0;have hwe:(if (0:Nat)=0∧0+k<c.length then 6 else 0)=if k<c.length then 6 else 0:=by
     rw [Ac];by_cases hk:k<c.length
     · rw [if_pos hk,if_pos ⟨rfl,hk⟩]
     rw [if_neg hk,if_neg (fun h=>hk h.2)]
    rw [hwe] at hw;dsimp only;generalize (if k<c.length then 6 else 0)=w at*;refine rQ fi74 ?_;refine cQ ht ?_;refine cQ hi ?_;refine cQ hw ?_;trivial
 rw [if_neg h0] at ht⊢;have f0:(((takeE (tagB n) (b.drop a):Nat):Int)=0)=False:=eq_false (by omega)
 refine rQ fi74 ?_;refine cy1 ht f0 ?_;trivial
theorem j1a(b:List UInt8)(a n:Nat)(hn:n≤30)(ha:a≤b.length)(hb:b.length≤1099511627776):PC Tryz.prog 75 [.isl .u8 b,rI a,rI n] (.tup [.isl .u8 (iiR [] octP b a n).1,rI ((iiR [] octP b a n).2.1:Nat),rI ((iiR [] octP b a n).2.2:Nat)]):=by
 have ht:=z1o b a n hn ha hb;unfold rdR at ht;unfold iiR octP rdP decOct;refine q0i rfl rfl ?_;by_cases h0:takeE (tagB n) (b.drop a)=0
 · rw [if_pos h0] at ht⊢;have hcl:(takeC (b.drop a)).length≤1099511627776:=q2s hb;generalize takeC (b.drop a)=c at*;generalize takeN (b.drop a)=m at*;have hi:=j4n c 0 (Ai _) hcl;unfold rdR at hi;rw [Az] at hi;by_cases h1:takeE 4 c=0
   · rw [if_pos h1] at hi⊢;generalize takeC c=d at*;generalize takeN c=k at*;have hw:=q0W c (0+k) 0;have hwe:(if (0:Nat)=0∧0+k<c.length then 6 else 0)=if k<c.length then 6 else 0:=by
      rw [Ac];by_cases hk:k<c.length
      · rw [if_pos hk,if_pos ⟨rfl,hk⟩]
      rw [if_neg hk,if_neg (fun h=>hk h.2)]
     rw [hwe] at hw;dsimp only;generalize (if k<c.length then 6 else 0)=w at*;refine rQ fi75 ?_;refine cQ ht ?_;refine cQ hi ?_;refine cQ hw ?_;trivial
   rw [if_neg h1] at hi⊢;generalize takeE 4 c=e at*;have hw:=q0W c 0 e;rw [if_neg (fun h=>h1 h.1)] at hw;dsimp only;refine rQ fi75 ?_;refine cQ ht ?_;refine cQ hi ?_;refine cQ hw ?_;trivial
 rw [if_neg h0] at ht⊢;have f0:(((takeE (tagB n) (b.drop a):Nat):Int)=0)=False:=eq_false (by omega)
 refine rQ fi75 ?_;refine cy1 ht f0 ?_;trivial
theorem j5b{c:List UInt8}{e:Nat}(h:octP c= .error e):e≠0:=by
 unfold octP rdP at h;split at h
 · cases h
 rename_i h0;cases h;exact h0
def thO(a:Nat):Except Nat (Key×Nat)→SV
 |.ok (v,k)=>.tup [rI v.1,rI v.2.1,.isl .u8 v.2.2,rI ((a+k:Nat):Int),rI 0]
 |.error e=>.tup [rI 0,rI 0,.isl .u8 [],rI a,rI e]
attribute [go_sem] thO
theorem z1M{α:Type}{z:α}{p:PR α}{b:List UInt8}{a n:Nat}(h:(iiR z p b a n).2.2=0):(iiR z p b a n).2.1=a+takeN (b.drop a)∧takeE (tagB n) (b.drop a)=0:=by
 unfold iiR at h⊢;by_cases h0:takeE (tagB n) (b.drop a)=0
 · rw [if_pos h0] at h⊢;cases p (takeC (b.drop a)) with
   |error e=>exact ⟨rfl,h0⟩
   |ok x=>exact ⟨rfl,h0⟩
 rw [if_neg h0] at h;exact absurd h h0
theorem z8N(b:List UInt8)(a:Nat)(ha:a≤b.length)(hb:b.length≤1099511627776):PC Tryz.prog 38 [.isl .u8 b,rI a] (thO a (keyP (b.drop a))):=by
 have h:=q3E b a 48 48 (by decide) ha hb
 unfold rdR at h;unfold keyP inP;by_cases h0:takeE 48 (b.drop a)=0
 · rw [if_pos h0] at h⊢;have hcl:(takeC (b.drop a)).length≤1099511627776:=q2s hb;generalize takeC (b.drop a)=c at*;generalize takeN (b.drop a)=m at*;have hi1:=z7m c 0 0 (by decide) (Ai _) hcl
   have hq1:=z1l (z:=0) (p:=intP) (fun _ _ h=>z2S h) c 0 0;rw [Az] at hq1;have he1:= @z1M Int 0 intP c 0 0;rw [Az] at he1;unfold allP tripIn bindP;rw [hq1];generalize iiR 0 intP c 0 0=r1 at*;obtain ⟨v1,a1,e1⟩:=r1;dsimp only at*;by_cases c1:e1=0
   · subst c1;rw [if_pos rfl];obtain ⟨rfl,t1⟩:=he1 rfl;have hn1:=q8X _ t1;generalize takeN c=m1 at*;rw [Ac] at hi1;have hi2:=z7m c m1 1 (by decide) hn1 hcl
     have hq2:=z1l (z:=0) (p:=intP) (fun _ _ h=>z2S h) c m1 1;have he2:= @z1M Int 0 intP c m1 1;dsimp only;rw [hq2];generalize iiR 0 intP c m1 1=r2 at*;obtain ⟨v2,a2,e2⟩:=r2;dsimp only at*;by_cases c2:e2=0
     · subst c2;rw [if_pos rfl];obtain ⟨rfl,t2⟩:=he2 rfl;have hn2:=q8X _ t2;rw [Al] at hn2;generalize takeN (c.drop m1)=m2 at*;have hi3:=j1a c (m1+m2) 2 (by decide) (by omega) hcl
       have hq3:=z1l (z:=[]) (p:=octP) (fun _ _ h=>j5b h) c (m1+m2) 2;have he3:= @z1M (List UInt8) [] octP c (m1+m2) 2;dsimp only;rw [Bi,hq3];generalize iiR [] octP c (m1+m2) 2=r3 at*;obtain ⟨v3,a3,e3⟩:=r3;dsimp only at*;by_cases c3:e3=0
       · subst c3;rw [if_pos rfl];obtain ⟨rfl,t3⟩:=he3 rfl;generalize takeN (c.drop (m1+m2))=m3 at*;have hw:=q0W c (m1+m2+m3) 0;have d6:((((6:Nat):Int))=0)=False:=by decide
         have d0:((((0:Nat):Int))=0)=True:=by decide
         dsimp only [retP];by_cases c4:m1+m2+m3<c.length
         · rw [if_pos ⟨rfl,c4⟩] at hw;rw [if_pos (show m1+ (m2+ (m3+0)) <c.length by omega)]
           refine q0i rfl rfl ?_;refine rQ fi38 ?_;refine cQ h ?_;refine cQ hi1 ?_;refine cQ hi2 ?_;refine cQ hi3 ?_;refine cy1 hw d6 ?_;trivial
         rw [if_neg (fun h=>c4 h.2)] at hw;rw [if_neg (show ¬m1+ (m2+ (m3+0)) <c.length by omega)]
         refine q0i rfl rfl ?_;refine rQ fi38 ?_;refine cQ h ?_;refine cQ hi1 ?_;refine cQ hi2 ?_;refine cQ hi3 ?_;refine cy1 hw d0 ?_;trivial
       have f3:(((e3:Nat):Int)=0)=False:=eq_false (by omega)
       have hw:=q0W c a3 e3;rw [if_neg (fun h=>c3 h.1)] at hw;rw [if_neg c3];refine q0i rfl rfl ?_;refine rQ fi38 ?_;refine cQ h ?_;refine cQ hi1 ?_;refine cQ hi2 ?_;refine cQ hi3 ?_;refine cy1 hw f3 ?_;trivial
     have f2:(((e2:Nat):Int)=0)=False:=eq_false (by omega)
     rw [if_neg c2];refine q0i rfl rfl ?_;refine rQ fi38 ?_;refine cQ h ?_;refine cQ hi1 ?_;refine cy1 hi2 f2 ?_;trivial
   have f1:(((e1:Nat):Int)=0)=False:=eq_false (by omega)
   rw [if_neg c1];refine q0i rfl rfl ?_;refine rQ fi38 ?_;refine cQ h ?_;refine cy1 hi1 f1 ?_;trivial
 rw [if_neg h0] at h⊢;have f0:(((takeE 48 (b.drop a):Nat):Int)=0)=False:=eq_false (by omega)
 refine q0i rfl rfl ?_;refine rQ fi38 ?_;refine cy1 h f0 ?_;trivial
def momS(t:Int):Bool:=decide (0≤t) && decide (t≤1099511627776)
theorem z7Q(t:Int):PC Tryz.prog 29 [rI t] (rB (momS t)):=by
 unfold momS;refine q0p rfl rfl ?_;by_cases h:0≤t
 · have f1:(0≤t)=True:=eq_true h;refine ry1 fi29 f1 ?_;trivial
 have f1:(0≤t)=False:=eq_false h;refine ry1 fi29 f1 ?_;trivial
end Go.Proofs.YtikapabgggphpaaGreatDoor
