/- PacSigns: the law's contract (the reference's checksums given). -/
import Derived.Test.YtmapiojgmbgbgaaGreatDoorQPs2
set_option linter.all false
namespace Go.Proofs.YtmapiojgmbgbgaaGreatDoor
open Go Go.Sx Go.Proofs
set_option maxRecDepth 100000
set_option maxHeartbeats 40000000
theorem z4S{v:Prin}(h:shortB v=true):shS v:=by
 simp only [shortB,Aj,decide_eq_true_eq,q1v,strAt] at h;refine ⟨by omega,fun x hx=> ?_,by omega⟩
 obtain ⟨j,hj,rfl⟩:=AH hx;have:=h.1 j hj;rwa [q3t hj] at this
theorem z6I{p:Pac}(h:smallP p=true)(hr:PacT.inR p):shC p:=by
 simp only [smallP,Aj,decide_eq_true_eq,q1v,viaAt] at h;refine ⟨z4S h.2.1,by omega,by omega,fun x hx=> ?_,hr.2.2.1,hr.2.2.2.1⟩
 obtain ⟨j,hj,rfl⟩:=AH hx;have:=h.1 j hj;rw [q3t hj] at this;exact z4S this
theorem z8I(hS:SumC)(p:Pac)(ho:PacT.ok p)(hr:PacT.inR p)(b:List UInt8)(s:Key)(hs:KeyT.ok s)(r:Key)(hrk:KeyT.ok r):PC Tryz.prog 3 [.agg (PacT.cells p),.isl .u8 b,.agg (KeyT.cells s),.agg (KeyT.cells r)] (rB true):=by
 have ck:=z3H;have cs:=z9U p ho;have cF:=j3b [s,r] (show 2≤1000 by decide)
 have cE:=fun h=>q8w p (z6I h hr);by_cases hA:(smallP p&& (decide ((pacR p).length≤600) && (decide (b.length≤1000) && allN [s,r].length (keyAt [s,r]))))=true
 rotate_left
 · generalize smallP p=q1 at*;generalize hq2:allN [s,r].length (keyAt [s,r])=q2 at*;generalize pacR p=pb at*;obtain ⟨c,a,u,g,w⟩:=p;obtain ⟨s1,s2,s3⟩:=s;obtain ⟨r1,r2,r3⟩:=r;refine q0p rfl rfl ?_;refine rQ fi3 ?_;refine q0a cs ?_;cases q1 with
   |false=>
    refine gQ ?_;refine cQ ck ?_;trivial
   |true=>
   have cE:=cE rfl;refine gQ ?_;refine q0a cE ?_;by_cases h1:pb.length≤600
   rotate_left
   · have f1:(600< (pb.length:Int))=True:=eq_true (by omega)
     refine gy1 f1 ?_;refine cQ ck ?_;trivial
   have f1:(600< (pb.length:Int))=False:=eq_false (by omega)
   by_cases h2:b.length≤1000
   rotate_left
   · have f2:(1000< (b.length:Int))=True:=eq_true (by omega)
     refine gy2 f1 f2 ?_;refine cQ ck ?_;trivial
   have f2:(1000< (b.length:Int))=False:=eq_false (by omega)
   rw [decide_eq_true h1,decide_eq_true h2,AE,AE,AE] at hA;obtain rfl:q2=false:=by revert hA;cases q2<;>simp
   refine gy2 f1 f2 ?_;refine q0m 3 ?_;with_reducible refine sxE ?_
   refine cQ cF ?_;refine cQ ck ?_;trivial
 simp only [Aj,decide_eq_true_eq] at hA;obtain ⟨a1,a2,a3,a4⟩:=hA;have cE:=cE a1;rw [a1] at cs;rw [a4] at cF;have f1:(600< ((pacR p).length:Int))=False:=eq_false (by omega)
 have f2:(1000< (b.length:Int))=False:=eq_false (by omega)
 have c1:=q8v p s r ho hs hrk;have c2:=z3E hS p s r ho hs hrk;have c3:=q3K b s r (by omega) hs hrk
 have c4:=z9e hS b s r (by omega) hs hrk
 have csm:=q8R (vfyS b s r).1 (vfyS b s r).1 (j4j (by omega) s r)
 rw [decide_eq_true rfl] at csm;generalize signS p s r=X at*;generalize vfyS b s r=Y at*;generalize pacR p=pb at*;obtain ⟨x1,x2⟩:=X;obtain ⟨⟨yc,ya,yu,yg,yw⟩,y2⟩:=Y;obtain ⟨c,a,u,g,w⟩:=p;obtain ⟨s1,s2,s3⟩:=s;obtain ⟨r1,r2,r3⟩:=r;refine q0p rfl rfl ?_;refine rQ fi3 ?_;refine cQ cs ?_;refine q0a cE ?_;refine gy2 f1 f2 ?_;refine q0m 3 ?_;with_reducible refine sxE ?_
 refine cQ cF ?_;refine cQ c1 ?_;refine cQ c2 ?_;refine cQ c3 ?_;refine cQ c4 ?_;refine cQ (q2L _) ?_;refine cQ csm ?_;refine cQ (q2L _) ?_;refine cQ ck ?_;trivial
end Go.Proofs.YtmapiojgmbgbgaaGreatDoor
