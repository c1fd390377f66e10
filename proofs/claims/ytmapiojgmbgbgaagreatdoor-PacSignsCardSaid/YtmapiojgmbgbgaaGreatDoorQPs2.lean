/- Signed data: the reference: verifying. -/
import Derived.Test.YtmapiojgmbgbgaaGreatDoorQ31
set_option linter.all false
namespace Go.Proofs.YtmapiojgmbgbgaaGreatDoor
open Go Go.Sx Go.Proofs
set_option maxRecDepth 100000
set_option maxHeartbeats 40000000
theorem z3i(k:Key):argK k= !(!noK k&& !vKey k):=by unfold argK;cases noK k<;>cases vKey k<;>rfl
theorem z9e(hS:SumC)(b:List UInt8)(s r:Key)(hb:b.length≤524288)(hs:KeyT.ok s)(hr:KeyT.ok r):PC Tryz.prog 16 [.isl .u8 b,.agg (KeyT.cells s),.agg (KeyT.cells r)] (.tup [.agg (PacT.cells (vfyS b s r).1),rI (vfyS b s r).2]):=by
 have z1:=z7X s;have z2:=z7X r;have k1:=z9R s;have k2:=z9R r;have q0:=q1s b 0;have q1:=q1s b 1;have q2:=q1s b 2;have i0:=q3o b 0 (by omega) (by omega)
 have i1:=q3o b 1 (by omega) (by omega)
 have i2:=q3o b 2 (by omega) (by omega)
 have g1:=z4V (itmR b 1) (by omega)
 have g2:=z4V (itmR b 2) (by omega)
 have cd:=z7O (itmR b 0) (by omega)
 have m1:=z9h (keyR (itmR b 1));have m2:=z9h (keyR (itmR b 2));obtain ⟨Y,hY⟩:∃Y,Y=vfyS b s r:=⟨_,rfl⟩;rw [←hY];have hP:∀x,decPc (itmR b 0)=some x→pacS x=itmR b 0:=fun x h=>(q6x h).2;unfold vfyS at hY;rw [←z8B] at hY;unfold decSgR sgdG at hY;dsimp only at hY;have hsd:=fun h1 h2=>z1V (itmR b 0) (keyR (itmR b 1)) (keyR (itmR b 2)) h1 h2 (by omega)
 have hr1:=fun h=>z4W hS (keyR (itmR b 1)) s 17 (itmR b 0) hs h (by omega)
 have hr2:=fun h hl=>z4W hS (keyR (itmR b 2)) r 18 (keyR (itmR b 1)).2.2 hr h hl;generalize itmR b 0=y at*;generalize itmR b 1=y1 at*;generalize itmR b 2=y2 at*;generalize keyR y1=f at*;generalize keyR y2=g at*;by_cases hA:(argK s&& argK r)=true
 rotate_left
 · rw [if_neg hA] at hY;rw [hY];rw [z3i,z3i] at hA;clear hY hsd hr1 hr2 cd m1 m2 hP;generalize noK s=n1 at*;generalize vKey s=v1 at*;generalize noK r=n2 at*;generalize vKey r=v2 at*;obtain ⟨s1,s2,s3⟩:=s;obtain ⟨r1,r2,r3⟩:=r;have hc:(n1=false∧v1=false)∨(n1=true∧n2=false∧v2=false)∨(n1=false∧v1=true∧n2=false∧v2=false):=by
    revert hA;cases n1<;>cases v1<;>cases n2<;>cases v2<;>simp
   clear hA;rcases hc with ⟨rfl,rfl⟩ | ⟨rfl,rfl,rfl⟩ | ⟨rfl,rfl,rfl,rfl⟩
   all_goals
    refine q0f rfl rfl ?_;refine rQ fi16 ?_;refine cQ z1 ?_;first
     |refine q0a k1 ?_
      refine gQ ?_
     |skip
    first
     |refine q0a z2 ?_
      refine gQ ?_
     |skip
    first
     |refine q0a k2 ?_
      refine gQ ?_
     |skip
    exact ⟨rfl,rfl,rfl,rfl,rfl,rfl⟩
 rw [if_pos hA] at hY;simp only [Aj] at hA;obtain ⟨a1,a2⟩:=hA;have hr1:=fun h=>hr1 (z5g a1 (by decide) h)
 have hr2:=fun h=>hr2 (z5g a2 (by decide) h)
 unfold rightB at hY;rw [z3i] at a1 a2;generalize hn1:noK s=n1 at*;generalize vKey s=v1 at*;generalize hn2:noK r=n2 at*;generalize vKey r=v2 at*;have hc1:n1=true∨(n1=false∧v1=true):=by revert a1;cases n1<;>cases v1<;>simp
 have hc2:n2=true∨(n2=false∧v2=true):=by revert a2;cases n2<;>cases v2<;>simp
 clear a1 a2;cases hx:decPc y with
 |none=>
  rw [hx] at hY cd;dsimp only at hY;rw [hY];clear hY hr1 hr2 hsd hP;obtain ⟨s1,s2,s3⟩:=s;obtain ⟨r1,r2,r3⟩:=r;obtain ⟨f1,f2,f3⟩:=f;obtain ⟨g1',g2',g3⟩:=g;have cd:PC Tryz.prog 23 [.isl .u8 y] (.tup [.agg (PacT.cells PacT.dflt),rI 6]):=cd;rcases hc1 with rfl| ⟨rfl,rfl⟩ <;>rcases hc2 with rfl| ⟨rfl,rfl⟩
  all_goals
   refine q0f rfl rfl ?_;refine rQ fi16 ?_;refine cQ z1 ?_;first
    |refine q0a k1 ?_
     refine gQ ?_
    |skip
   refine cQ z2 ?_;first
    |refine q0a k2 ?_
     refine gQ ?_
    |skip
   refine cQ i0 ?_;refine cQ i1 ?_;refine cQ g1 ?_;refine cQ i2 ?_;refine cQ g2 ?_;refine cQ cd ?_;exact ⟨rfl,rfl,rfl,rfl,rfl,rfl⟩
 |some x=>
  have hPx:=hP x hx;rw [hx] at hY cd;dsimp only at hY;have cd:PC Tryz.prog 23 [.isl .u8 y] (.tup [.agg (PacT.cells x),rI 0]):=cd;cases hf:vKey f with
  |false=>
   rw [if_neg (fun h=>by rw [h.1] at hf;cases hf)] at hY
   rw [hf] at m1;dsimp only at hY;rw [hY];clear hY hr1 hr2 hsd hP hPx hx hf;obtain ⟨xc,xa,xu,xg,xw⟩:=x;obtain ⟨s1,s2,s3⟩:=s;obtain ⟨r1,r2,r3⟩:=r;obtain ⟨f1,f2,f3⟩:=f;obtain ⟨g1',g2',g3⟩:=g;rcases hc1 with rfl| ⟨rfl,rfl⟩ <;>rcases hc2 with rfl| ⟨rfl,rfl⟩
   all_goals
    refine q0f rfl rfl ?_;refine rQ fi16 ?_;refine cQ z1 ?_;first
     |refine q0a k1 ?_
      refine gQ ?_
     |skip
    refine cQ z2 ?_;first
     |refine q0a k2 ?_
      refine gQ ?_
     |skip
    refine cQ i0 ?_;refine cQ i1 ?_;refine cQ g1 ?_;refine cQ i2 ?_;refine cQ g2 ?_;refine cQ cd ?_;refine cR m1 ?_;exact ⟨rfl,rfl,rfl,rfl,rfl,rfl⟩
  |true=>
  cases hg:vKey g with
  |false=>
   rw [if_neg (fun h=>by rw [h.2.1] at hg;cases hg)] at hY
   rw [hf] at m1;rw [hg] at m2;dsimp only at hY;rw [hY];clear hY hr1 hr2 hsd hP hPx hx hf hg;obtain ⟨xc,xa,xu,xg,xw⟩:=x;obtain ⟨s1,s2,s3⟩:=s;obtain ⟨r1,r2,r3⟩:=r;obtain ⟨f1,f2,f3⟩:=f;obtain ⟨g1',g2',g3⟩:=g;rcases hc1 with rfl| ⟨rfl,rfl⟩ <;>rcases hc2 with rfl| ⟨rfl,rfl⟩
   all_goals
    refine q0f rfl rfl ?_;refine rQ fi16 ?_;refine cQ z1 ?_;first
     |refine q0a k1 ?_
      refine gQ ?_
     |skip
    refine cQ z2 ?_;first
     |refine q0a k2 ?_
      refine gQ ?_
     |skip
    refine cQ i0 ?_;refine cQ i1 ?_;refine cQ g1 ?_;refine cQ i2 ?_;refine cQ g2 ?_;refine cQ cd ?_;refine cR m1 ?_;refine cR m2 ?_;exact ⟨rfl,rfl,rfl,rfl,rfl,rfl⟩
  |true=>
  have hsd:=hsd hf hg;rw [hf] at m1;rw [hg] at m2;have hfl:=(q1M hf).1;by_cases he:sgnR y f g=b
  rotate_left
  · rw [if_neg (fun h=>he h.2.2)] at hY;dsimp only at hY;rw [hY];have he2:(strOf (sgnR y f g)=strOf b)=False:=eq_false (by rw [z1B];exact he)
    generalize sgnR y f g=w at*;clear hY hr1 hr2 hP hPx hx hf hg he hfl;obtain ⟨xc,xa,xu,xg,xw⟩:=x;obtain ⟨s1,s2,s3⟩:=s;obtain ⟨r1,r2,r3⟩:=r;obtain ⟨f1,f2,f3⟩:=f;obtain ⟨g1',g2',g3⟩:=g;rcases hc1 with rfl| ⟨rfl,rfl⟩ <;>rcases hc2 with rfl| ⟨rfl,rfl⟩
    all_goals
     refine q0f rfl rfl ?_;refine rQ fi16 ?_;refine cQ z1 ?_;first
      |refine q0a k1 ?_
       refine gQ ?_
      |skip
     refine cQ z2 ?_;first
      |refine q0a k2 ?_
       refine gQ ?_
      |skip
     refine cQ i0 ?_;refine cQ i1 ?_;refine cQ g1 ?_;refine cQ i2 ?_;refine cQ g2 ?_;refine cQ cd ?_;refine cR m1 ?_;refine cR m2 ?_;refine q0d hsd ?_;refine gy1 he2 ?_;exact ⟨rfl,rfl,rfl,rfl,rfl,rfl⟩
  rw [if_pos ⟨hf,hg,he⟩] at hY;dsimp only at hY;rw [hPx] at hY;have hr2:=fun h=>hr2 h (by omega)
  rw [he] at hsd;generalize (fitK s f&& decide (smS s 17 y=f.2.2))=p1 at*;generalize (fitK r g&& decide (smS r 18 f.2.2=g.2.2))=p2 at*;clear hP hPx hx hf hg he hfl;obtain ⟨xc,xa,xu,xg,xw⟩:=x;obtain ⟨s1,s2,s3⟩:=s;obtain ⟨r1,r2,r3⟩:=r;obtain ⟨f1,f2,f3⟩:=f;obtain ⟨g1',g2',g3⟩:=g;rcases hc1 with rfl| ⟨rfl,rfl⟩
  · rcases hc2 with rfl| ⟨rfl,rfl⟩
    · have hY:Y=((xc,xa,xu,xg,xw),0):=hY;rw [hY];refine q0f rfl rfl ?_;refine rQ fi16 ?_;refine cQ z1 ?_;first
       |refine q0a k1 ?_
        refine gQ ?_
       |skip
      refine cQ z2 ?_;first
       |refine q0a k2 ?_
        refine gQ ?_
       |skip
      refine cQ i0 ?_;refine cQ i1 ?_;refine cQ g1 ?_;refine cQ i2 ?_;refine cQ g2 ?_;refine cQ cd ?_;refine cR m1 ?_;refine cR m2 ?_;refine cR hsd ?_;refine cQ z1 ?_;refine cQ z2 ?_;trivial
    have hr2:=hr2 rfl;cases p2 with
    |false=>
     have hY:Y=(PacT.dflt,231):=hY;rw [hY];refine q0f rfl rfl ?_;refine rQ fi16 ?_;refine cQ z1 ?_;first
      |refine q0a k1 ?_
       refine gQ ?_
      |skip
     refine cQ z2 ?_;first
      |refine q0a k2 ?_
       refine gQ ?_
      |skip
     refine cQ i0 ?_;refine cQ i1 ?_;refine cQ g1 ?_;refine cQ i2 ?_;refine cQ g2 ?_;refine cQ cd ?_;refine cR m1 ?_;refine cR m2 ?_;refine cR hsd ?_;refine cQ z1 ?_;refine cQ z2 ?_;refine cQ hr2 ?_;exact ⟨rfl,rfl,rfl,rfl,rfl,rfl⟩
    |true=>
     have hY:Y=((xc,xa,xu,xg,xw),0):=hY;rw [hY];refine q0f rfl rfl ?_;refine rQ fi16 ?_;refine cQ z1 ?_;first
      |refine q0a k1 ?_
       refine gQ ?_
      |skip
     refine cQ z2 ?_;first
      |refine q0a k2 ?_
       refine gQ ?_
      |skip
     refine cQ i0 ?_;refine cQ i1 ?_;refine cQ g1 ?_;refine cQ i2 ?_;refine cQ g2 ?_;refine cQ cd ?_;refine cR m1 ?_;refine cR m2 ?_;refine cR hsd ?_;refine cQ z1 ?_;refine cQ z2 ?_;refine cQ hr2 ?_;trivial
  have hr1:=hr1 rfl;cases p1 with
  |false=>
   have hY:Y=(PacT.dflt,230):=hY;rw [hY];rcases hc2 with rfl| ⟨rfl,rfl⟩
   all_goals
    refine q0f rfl rfl ?_;refine rQ fi16 ?_;refine cQ z1 ?_;first
     |refine q0a k1 ?_
      refine gQ ?_
     |skip
    refine cQ z2 ?_;first
     |refine q0a k2 ?_
      refine gQ ?_
     |skip
    refine cQ i0 ?_;refine cQ i1 ?_;refine cQ g1 ?_;refine cQ i2 ?_;refine cQ g2 ?_;refine cQ cd ?_;refine cR m1 ?_;refine cR m2 ?_;refine cR hsd ?_;refine cQ z1 ?_;refine cQ hr1 ?_;exact ⟨rfl,rfl,rfl,rfl,rfl,rfl⟩
  |true=>
   rcases hc2 with rfl| ⟨rfl,rfl⟩
   · have hY:Y=((xc,xa,xu,xg,xw),0):=hY;rw [hY];refine q0f rfl rfl ?_;refine rQ fi16 ?_;refine cQ z1 ?_;first
      |refine q0a k1 ?_
       refine gQ ?_
      |skip
     refine cQ z2 ?_;first
      |refine q0a k2 ?_
       refine gQ ?_
      |skip
     refine cQ i0 ?_;refine cQ i1 ?_;refine cQ g1 ?_;refine cQ i2 ?_;refine cQ g2 ?_;refine cQ cd ?_;refine cR m1 ?_;refine cR m2 ?_;refine cR hsd ?_;refine cQ z1 ?_;refine cQ hr1 ?_;refine cQ z2 ?_;trivial
   have hr2:=hr2 rfl;cases p2 with
   |false=>
    have hY:Y=(PacT.dflt,231):=hY;rw [hY];refine q0f rfl rfl ?_;refine rQ fi16 ?_;refine cQ z1 ?_;first
     |refine q0a k1 ?_
      refine gQ ?_
     |skip
    refine cQ z2 ?_;first
     |refine q0a k2 ?_
      refine gQ ?_
     |skip
    refine cQ i0 ?_;refine cQ i1 ?_;refine cQ g1 ?_;refine cQ i2 ?_;refine cQ g2 ?_;refine cQ cd ?_;refine cR m1 ?_;refine cR m2 ?_;refine cR hsd ?_;refine cQ z1 ?_;refine cQ hr1 ?_;refine cQ z2 ?_;refine cQ hr2 ?_;exact ⟨rfl,rfl,rfl,rfl,rfl,rfl⟩
   |true=>
    have hY:Y=((xc,xa,xu,xg,xw),0):=hY;rw [hY];refine q0f rfl rfl ?_;refine rQ fi16 ?_;refine cQ z1 ?_;first
     |refine q0a k1 ?_
      refine gQ ?_
     |skip
    refine cQ z2 ?_;first
     |refine q0a k2 ?_
      refine gQ ?_
     |skip
    refine cQ i0 ?_;refine cQ i1 ?_;refine cQ g1 ?_;refine cQ i2 ?_;refine cQ g2 ?_;refine cQ cd ?_;refine cR m1 ?_;refine cR m2 ?_;refine cR hsd ?_;refine cQ z1 ?_;refine cQ hr1 ?_;refine cQ z2 ?_;refine cQ hr2 ?_;trivial
end Go.Proofs.YtmapiojgmbgbgaaGreatDoor
