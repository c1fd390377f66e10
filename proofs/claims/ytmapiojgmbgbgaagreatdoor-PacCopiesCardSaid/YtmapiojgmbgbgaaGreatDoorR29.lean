/- Signed data: contracts: signing, verifying. -/
import Derived.Test.YtmapiojgmbgbgaaGreatDoorR28
set_option linter.all false
namespace Go.Proofs.YtmapiojgmbgbgaaGreatDoor
open Go Go.Sx Go.Proofs
set_option maxRecDepth 100000
set_option maxHeartbeats 40000000
theorem j0x(k:Key)(u:Nat)(x:List UInt8)(ho:KeyT.ok k)(hu:uOk k u=true)(hx:x.length≤1048576):PC Tryz.prog 44 [.agg (KeyT.cells k),rI u,.isl .u8 x] (.agg [rI k.1,rI k.2.1,.isl .u8 (smS k u x)]):=by
 have h:=j0t k u x ho hu hx;generalize smS k u x=w at*;obtain ⟨p,v,b⟩:=k;refine q0w rfl rfl ?_;refine rQ fi44 ?_;refine cQ h ?_;trivial
def noK(k:Key):Bool:=decide (k.1=0) && (decide (k.2.1=0) && decide (k.2.2.length=0))
theorem z1V(k:Key):PC Tryz.prog 50 [.agg (KeyT.cells k)] (rB (noK k)):=by
 obtain ⟨p,v,b⟩:=k;refine q0w rfl rfl ?_;refine rQ fi50 ?_
 grind [noK]
def fitK(k s:Key):Bool:=decide (s.1=k.1) && (decide (s.2.1=k.2.1) || (decide (s.2.1=0) ||decide (k.2.1=0)))
def rightB(k:Key)(u:Nat)(x:List UInt8)(s:Key):Bool:=noK k|| (fitK k s&& decide (smS k u x=s.2.2))
theorem z3W(k:Key)(u:Nat)(x:List UInt8)(s:Key)(ho:KeyT.ok k)(hu:noK k=false→uOk k u=true)(hx:x.length≤1048576)(hs:s.2.2.length≤1099511627776):PC Tryz.prog 55 [.agg (KeyT.cells k),rI u,.isl .u8 x,.agg (KeyT.cells s)] (rB (rightB k u x s)):=by
 have hn:=z1V k;unfold rightB;cases hk:noK k with
 |true=>
  rw [hk] at hn;obtain ⟨p,v,b⟩:=k;refine q0w rfl rfl ?_;refine rQ fi55 ?_;refine cQ hn ?_;trivial
 |false=>
  rw [hk] at hn;have hv:=z7I k u x s.2.2 ho (hu hk) hx hs;generalize smS k u x=w at*;clear hu hk ho;obtain ⟨p,v,b⟩:=k;obtain ⟨sp,sv,sb⟩:=s;dsimp only at hv hs;have hve:(if w=sb then (0:Int) else 10)=0 ↔ w=sb:=by split<;>simp_all
  generalize (if w=sb then (0:Int) else 10)=z at*;unfold fitK;refine q0w rfl rfl ?_;refine rQ fi55 ?_;refine cQ hn ?_<;>try with_reducible exact True.intro
  repeat' (first
   | (refine q0a (hv) ?_;refine uQ 600 _ ?_;simp (maxSteps:=3000000) only [go_sem,↓zA,↓reduceIte,↓reduceDIte] <;>try simp only [zB])
   | (refine q0l (hv) ?_;refine uQ 600 _ ?_;simp (maxSteps:=3000000) only [go_sem,↓zA,↓reduceIte,↓reduceDIte] <;>try simp only [zB])
   | (refine q0E (hv) ?_;refine uQ 600 _ ?_;simp (maxSteps:=3000000) only [go_sem,↓zA,↓reduceIte,↓reduceDIte] <;>try simp only [zB])
   | (with_reducible refine And.intro ?_ ?_)
   | (with_reducible intro _))
  all_goals (grind)
theorem z3V{k:Key}{u:Int}(h:vKey k=true)(hu:1≤u∧u≤1023):uOk k u=true:=by
 unfold uOk;simp [h,hu.1,hu.2]
theorem q3h{k:Key}(h:vKey k=true):k.2.2.length≤32∧((k.2.2.length:Nat):Int)=keyLen k.1:=by
 have:=q6Y (u:=1) (z3V h (by decide))
 exact ⟨this.2.2.2.1,this.2.2.1⟩
def sigK(k:Key)(u:Nat)(x:List UInt8):Key:=(k.1,k.2.1,smS k u x)
theorem j0R{k:Key}(u:Nat)(x:List UInt8)(h:vKey k=true):vKey (sigK k u x)=true:=by
 have hl:=q3h h;have hs:=q5L k u x hl.1;unfold vKey at*;simp only [Ai,decide_eq_true_eq] at*;refine ⟨h.1,?_,h.2.2⟩;show ((smS k u x).length:Int)=keyLen k.1;rw [hs];exact hl.2
theorem z7j{k:Key}(u:Nat)(x:List UInt8)(h:vKey k=true):KeyT.ok (sigK k u x):=by
 have hl:=q3h h;have hs:=q5L k u x hl.1;exact ⟨trivial,trivial,⟨show (smS k u x).length≤1125899906842624 by omega,fun _ _=>trivial⟩⟩
def signX(p:Pac)(s r:Key):Sgd:=(p,sigK s 17 (pacS p),sigK r 18 (smS s 17 (pacS p)))
theorem z2A{p:Pac}{s r:Key}(h:vPac p=true)(hs:vKey s=true)(hr:vKey r=true):vSgn (signX p s r)=true:=by
 unfold vSgn;rw [show (signX p s r).1=p from rfl,show (signX p s r).2.1=sigK s 17 (pacS p) from rfl,show (signX p s r).2.2=sigK r 18 (smS s 17 (pacS p)) from rfl,h,j0R _ _ hs,j0R _ _ hr]
 rfl
def signS(p:Pac)(s r:Key):List UInt8×Int:=if vPac p&& (vKey s&& vKey r) then (if 4096< (sgnS (signX p s r)).length then ([],5) else (sgnS (signX p s r),0)) else ([],2)
theorem z7V(p:Pac)(s r:Key)(ho:PacT.ok p)(hs:KeyT.ok s)(hr:KeyT.ok r):PC Tryz.prog 13 [.agg (PacT.cells p),.agg (KeyT.cells s),.agg (KeyT.cells r)] (.tup [.isl .u8 (signS p s r).1,rI (signS p s r).2]):=by
 have c1:=q3T p ho;have c2:=q6x s;have c3:=q6x r;have c4:=q3U p ho;unfold signS;cases h1:vPac p with
 |false=>
  rw [h1] at c1;obtain ⟨c,a,u,g,w⟩:=p;refine q0q rfl rfl ?_;refine rQ fi13 ?_;refine cQ c1 ?_;trivial
 |true=>
 cases h2:vKey s with
 |false=>
  rw [h1] at c1;rw [h2] at c2;obtain ⟨c,a,u,g,w⟩:=p;obtain ⟨s1,s2,s3⟩:=s;refine q0q rfl rfl ?_;refine rQ fi13 ?_;refine cQ c1 ?_;refine cQ c2 ?_;trivial
 |true=>
 cases h3:vKey r with
 |false=>
  rw [h1] at c1;rw [h2] at c2;rw [h3] at c3;obtain ⟨c,a,u,g,w⟩:=p;obtain ⟨s1,s2,s3⟩:=s;obtain ⟨r1,r2,r3⟩:=r;refine q0q rfl rfl ?_;refine rQ fi13 ?_;refine cQ c1 ?_;refine cQ c2 ?_;refine cQ c3 ?_;trivial
 |true=>
  have hsl:=q5L s 17 (pacS p) (q3h h2).1;have hs32:=(q3h h2).1;have hpl:=(z2w h1).1;have c5:=j0x s 17 (pacS p) hs (z3V h2 (by decide)) (by omega)
  have c6:=j0x r 18 (smS s 17 (pacS p)) hr (z3V h3 (by decide)) (by omega)
  have c7:=j0s (signX p s r) ⟨ho,z7j _ _ h2,z7j _ _ h3⟩ (z2A h1 h2 h3);have hX:signX p s r=(p,(s.1,s.2.1,smS s 17 (pacS p)),(r.1,r.2.1,smS r 18 (smS s 17 (pacS p)))):=rfl;generalize sgnS (signX p s r)=y at*;rw [hX] at c7;clear hX;rw [h1] at c1;rw [h2] at c2;rw [h3] at c3;have c4:=c4 h1;generalize pacS p=w at*;generalize smS s 17 w=m1 at*;generalize smS r 18 m1=m2 at*;obtain ⟨c,a,u,g,w⟩:=p;obtain ⟨s1,s2,s3⟩:=s;obtain ⟨r1,r2,r3⟩:=r;refine q0q rfl rfl ?_;refine rQ fi13 ?_;refine cQ c1 ?_;refine cQ c2 ?_;refine cQ c3 ?_;refine cR c4 ?_;refine cR c5 ?_;refine cQ c6 ?_;refine cQ c7 ?_;refine ⟨fun h=> ?_,fun h=> ?_⟩
  · rw [if_pos (show 4096<y.length by omega)]
    exact ⟨rfl,rfl⟩
  rw [if_neg (show ¬4096<y.length by omega)]
  exact ⟨rfl,rfl⟩
def argK(k:Key):Bool:=noK k||vKey k
theorem j0O{k:Key}{u:Nat}(h:argK k=true)(hu:1≤u∧u≤1023):noK k=false→uOk k u=true:=fun hn=>by
 unfold argK at h;rw [hn,Bool.false_or] at h;exact z3V h ⟨by omega,by omega⟩
def vfyS(b:List UInt8)(s r:Key):Pac×Int:=if argK s&& argK r then (match decSg b with
 |none=>(PacT.dflt,6)
 |some x=>if rightB s 17 (pacS x.1) x.2.1 then (if rightB r 18 x.2.1.2.2 x.2.2 then (x.1,0) else (PacT.dflt,231)) else (PacT.dflt,230)) else (PacT.dflt,2)
theorem j4A(x:Sgd)(s:Key)(ho:SgT.ok x)(hv:vSgn x=true)(hs:KeyT.ok s)(ha:argK s=true):PC Tryz.prog 54 [.agg (SgT.cells x),.iptr KeyT s 0] (rB (rightB s 17 (pacS x.1) x.2.1)):=by
 simp only [vSgn,Ai] at hv;have h1:=q3U x.1 ho.1 hv.1;have h2:=z3W s 17 (pacS x.1) x.2.1 hs (j0O ha (by decide)) (by have:=(z2w hv.1).1;omega) (by have:=(q3h hv.2.1).1;omega)
 generalize rightB s 17 (pacS x.1) x.2.1=q at*;clear hv;generalize pacS x.1=w at*;obtain ⟨⟨c,a,u,g,w⟩,⟨p1,p2,p3⟩,⟨q1,q2,q3⟩⟩:=x;obtain ⟨s1,s2,s3⟩:=s;refine q0w rfl rfl ?_;refine rQ fi54 ?_;refine cR h1 ?_;refine cR h2 ?_;trivial
theorem j4E(x:Sgd)(r:Key)(hv:vSgn x=true)(hr:KeyT.ok r)(ha:argK r=true):PC Tryz.prog 56 [.agg (SgT.cells x),.iptr KeyT r 0] (rB (rightB r 18 x.2.1.2.2 x.2.2)):=by
 simp only [vSgn,Ai] at hv;have h2:=z3W r 18 x.2.1.2.2 x.2.2 hr (j0O ha (by decide)) (by have:=(q3h hv.2.1).1;omega) (by have:=(q3h hv.2.2).1;omega)
 generalize rightB r 18 x.2.1.2.2 x.2.2=q at*;clear hv;obtain ⟨⟨c,a,u,g,w⟩,⟨p1,p2,p3⟩,⟨q1,q2,q3⟩⟩:=x;obtain ⟨s1,s2,s3⟩:=r;refine q0w rfl rfl ?_;refine rQ fi56 ?_;refine cQ h2 ?_;trivial
theorem q7F{b:List UInt8}(hb:b.length≤1099511627776)(x:Sgd)(h:decSg b=some x):SgT.ok x∧vSgn x=true:=by
 refine ⟨?_,(z4K h).1⟩;unfold decSg allP at h;cases hx:sgP b with
 |error e=>rw [hx] at h;cases h
 |ok y=>
  obtain ⟨f,m⟩:=y;rw [hx] at h;dsimp only at h;split at h
  · rename_i heq;split at heq
    · cases heq
    cases heq;split at h
    · cases h;exact j0r b _ _ hb hx
    cases h
  cases h
theorem q3Z(b:List UInt8)(s r:Key)(hb:b.length≤1099511627776)(hs:KeyT.ok s)(hr:KeyT.ok r):PC Tryz.prog 15 [.isl .u8 b,.agg (KeyT.cells s),.agg (KeyT.cells r)] (.tup [.agg (PacT.cells (vfyS b s r).1),rI (vfyS b s r).2]):=by
 have n1:=z1V s;have n2:=z1V r;have v1:=q6x s;have v2:=q6x r;have hd:=z4i b hb;obtain ⟨Y,hY⟩:∃Y,Y=vfyS b s r:=⟨_,rfl⟩;rw [←hY];unfold vfyS at hY;have hva:=fun x hv=>j4A x s (q7F hb x hv).1 (q7F hb x hv).2 hs;have hvb:=fun x hv=>j4E x r (q7F hb x hv).2 hr;have e0:((0:Nat):Int)=0:=rfl;have e1:((1:Nat):Int)=1:=rfl;have hs':=hs;have hr':=hr;obtain ⟨s1,s2,s3⟩:=s;obtain ⟨r1,r2,r3⟩:=r;refine q0q rfl rfl ?_;refine q4r fi15 ?_;refine uQ 5 _ ?_;with_reducible refine sxE ?_
 refine q3I 4 0 (ty:=KeyT) (x:=(s1,s2,s3)) rfl hs' rfl rfl ?_;refine q3I 5 1 (ty:=KeyT) (x:=(r1,r2,r3)) rfl hr' rfl rfl ?_;refine gQ ?_;refine q0X (fun i=>[(18,rI (i:Nat))]) 2 (fun j=>argK (if j=0 then (s1,s2,s3) else (r1,r2,r3))=true) (by first|decide|simp) (fun i=>rfl) ?_ fun i hi hall=> ?_
 · with_reducible refine sxE ?_;trivial
 have hwr:=wsx i (by omega)
 by_cases h0:i=0
 · subst h0;refine gy1 e0 ?_;refine q0a n1 ?_;cases hn:noK (s1,s2,s3) with
   |true=>
    have ha:argK (s1,s2,s3)=true:=by unfold argK;rw [hn,CB]
    refine gQ ?_;refine ⟨by decide,fun j hj=> ?_,⟨[_],rfl⟩,?_⟩
    · rw [if_pos (show j=0 by omega)];exact ha
    with_reducible refine sxE ?_
    rfl
   |false=>
    refine gQ ?_;refine q0a v1 ?_;cases hv:vKey (s1,s2,s3) with
    |true=>
     have ha:argK (s1,s2,s3)=true:=by unfold argK;rw [hv,Ca]
     refine gQ ?_;refine ⟨by decide,fun j hj=> ?_,⟨[_],rfl⟩,?_⟩
     · rw [if_pos (show j=0 by omega)];exact ha
     with_reducible refine sxE ?_
     rfl
    |false=>
     have ha:argK (s1,s2,s3)=false:=by unfold argK;rw [hn,hv];rfl
     refine gQ ?_;rw [ha,AW] at hY;rw [hY];exact ⟨⟨rfl,rfl,rfl,rfl,rfl,rfl⟩,rfl⟩
 by_cases h1:i=1
 · subst h1;refine gy1 e1 ?_;refine q0a n2 ?_;cases hn:noK (r1,r2,r3) with
   |true=>
    have ha:argK (r1,r2,r3)=true:=by unfold argK;rw [hn,CB]
    refine gQ ?_;refine ⟨by decide,fun j hj=> ?_,⟨[_],rfl⟩,?_⟩
    · exact if hj0:j=0 then hall j (by omega) else by rw [if_neg hj0];exact ha
    with_reducible refine sxE ?_
    rfl
   |false=>
    refine gQ ?_;refine q0a v2 ?_;cases hv:vKey (r1,r2,r3) with
    |true=>
     have ha:argK (r1,r2,r3)=true:=by unfold argK;rw [hv,Ca]
     refine gQ ?_;refine ⟨by decide,fun j hj=> ?_,⟨[_],rfl⟩,?_⟩
     · exact if hj0:j=0 then hall j (by omega) else by rw [if_neg hj0];exact ha
     with_reducible refine sxE ?_
     rfl
    |false=>
     have ha:argK (r1,r2,r3)=false:=by unfold argK;rw [hn,hv];rfl
     refine gQ ?_;rw [ha,BN] at hY;rw [hY];exact ⟨⟨rfl,rfl,rfl,rfl,rfl,rfl⟩,rfl⟩
 obtain rfl:i=2:=by omega
 have ha:=hall 0 (by omega)
 have hb2:=hall 1 (by omega)
 rw [if_pos rfl] at ha;rw [if_neg (by decide)] at hb2
 have e2:((2:Nat):Int)=2:=rfl;rw [ha,hb2,BI,if_pos rfl] at hY;clear hall hwr h0 h1;refine gy1 e2 ?_;cases hx:decSg b with
 |none=>
  rw [hx] at hY hd;dsimp only at hY;rw [hY];refine q0a hd ?_;refine uQ 600 _ ?_;simp (maxSteps:=3000000) only [Option.isSome_none,go_sem,↓zA,↓reduceIte,↓reduceDIte] <;>try simp only [zB]
  exact ⟨rfl,rfl,rfl,rfl,rfl,rfl⟩
 |some x=>
  rw [hx] at hY hd;have c1:=hva x hx ha;have c2:=hvb x hx hb2;dsimp only at hY;generalize rightB (s1,s2,s3) 17 (pacS x.1) x.2.1=g1 at*;generalize rightB (r1,r2,r3) 18 x.2.1.2.2 x.2.2=g2 at*;clear hva hvb;obtain ⟨⟨c,a,u,g,w⟩,⟨p1,p2,p3⟩,⟨q1,q2,q3⟩⟩:=x;have hd:PC Tryz.prog 51 _ (.tup [.agg (SgT.cells ((c,a,u,g,w),(p1,p2,p3),(q1,q2,q3))),rI 0]):=hd;refine cQ hd ?_;refine q0X (fun i=>[(45,rI (i:Nat))]) 2 (fun j=>(if j=0 then g1 else g2)=true) (by first|decide|simp) (fun i=>rfl) ?_ fun i hi hall=> ?_
  · with_reducible refine sxE ?_;trivial
  by_cases h0:i=0
  · subst h0;refine gy1 e0 ?_;refine q0a c1 ?_;cases g1 with
    |false=>
     rw [hY];refine gQ ?_;exact ⟨rfl,rfl,rfl,rfl,rfl,rfl⟩
    |true=>
     refine gQ ?_;refine ⟨by decide,fun j hj=> ?_,⟨[],rfl⟩,?_⟩
     · rw [if_pos (show j=0 by omega)]
     with_reducible refine sxE ?_
     rfl
  by_cases h1:i=1
  · subst h1;have hg:=hall 0 (by omega)
    rw [if_pos rfl] at hg;rw [hg] at hY;refine gy1 e1 ?_;refine q0a c2 ?_;cases g2 with
    |false=>
     rw [hY];refine gQ ?_;exact ⟨rfl,rfl,rfl,rfl,rfl,rfl⟩
    |true=>
     refine gQ ?_;refine ⟨by decide,fun j hj=> ?_,⟨[],rfl⟩,?_⟩
     · exact if hj0:j=0 then hall j (by omega) else by rw [if_neg hj0]
     with_reducible refine sxE ?_
     rfl
  obtain rfl:i=2:=by omega
  have hg:=hall 0 (by omega)
  have hg2:=hall 1 (by omega)
  rw [if_pos rfl] at hg;rw [if_neg (by decide)] at hg2
  rw [hg,hg2] at hY;rw [hY];refine gy1 e2 ?_;trivial
set_option maxHeartbeats 4000000
set_option maxHeartbeats 40000000
theorem j2e(c c':Prin)(a a' u u':Int)(g g':List Int)(w w':List Prin):decide (((c,a,u,g,w):Pac)=(c',a',u',g',w'))=(decide (g.length=g'.length) && (decide (w.length=w'.length) && (allN g.length (eqAt g g' (Ty.dflt I64)) && (allN w.length (eqAt w w' PrinT.dflt) && (decide (c=c') && (decide (a=a') && decide (u=u'))))))):=by
 have k1:=sameN g g' (Ty.dflt I64);have k2:=sameN w w' PrinT.dflt;rw [BE];simp only [decide_eq_true_eq,Ai,Prod.mk.injEq];constructor
 · rintro ⟨h1,h2,h3,h4,h5⟩;have h4:=k1.1 h4;have h5:=k2.1 h5;exact ⟨h4.1,h5.1,h4.2,h5.2,h1,h2,h3⟩
 rintro ⟨h1,h2,h3,h4,h5,h6,h7⟩;exact ⟨h5,h6,h7,k1.2 ⟨h1,h3⟩,k2.2 ⟨h2,h4⟩⟩
theorem q5t(p q:Pac)(ho:PacT.ok p):PC Tryz.prog 18 [.agg (PacT.cells p),.agg (PacT.cells q)] (rB (decide (p=q))):=by
 obtain ⟨c,a,u,g,w⟩:=p;obtain ⟨c',a',u',g',w'⟩:=q;obtain ⟨o1,_,_,o4,o5⟩:=ho;have hgl:List.length g≤1125899906842624:=o4.1;have hwl:List.length w≤1125899906842624:=o5.1;rw [show rB (decide (((c,a,u,g,w):Pac)=(c',a',u',g',w')))=_ from congrArg (fun b=>rB b) (j2e c c' a a' u u' g g' w w')]
 refine q0w rfl rfl ?_;refine rQ fi18 ?_;refine ⟨fun h1=>⟨fun h2=> ?_,fun h2=> ?_⟩,fun h1=> ?_⟩
 · rw [decide_eq_false (show ¬List.length w=List.length w' by omega),AW,BN]
 rotate_left
 · rw [decide_eq_false (show ¬List.length g=List.length g' by omega),AW]
 have hlg:List.length g=List.length g':=by omega
 have hlw:List.length w=List.length w':=by omega
 rw [decide_eq_true hlg,decide_eq_true hlw,AJ,AJ];refine q0X (fun i=>[(5,.raw (.int .i64 ((i:Nat):Int)))]) (List.length g) (fun j=>(eqAt g g' (Ty.dflt I64)) j=true) (by first|decide|simp) (fun i=>rfl) ?_ fun i hi hall=> ?_
 · (with_reducible refine sxE ?_<;>try exact True.intro)
   all_goals (try rfl)
 have hwr:=wsx i (by omega)
 refine gQ ?_;have bad:i< (List.length g)→(eqAt g g' (Ty.dflt I64)) i=false→allN (List.length g) (eqAt g g' (Ty.dflt I64))=false:=fun hlt hv=>q0y hlt hv;have fin:¬i< (List.length g)→allN (List.length g) (eqAt g g' (Ty.dflt I64))=true:=fun h=>q0B fun j hj=>hall j (by omega)
 try dsimp only at bad fin hall
 have hgd:eqAt g g' (Ty.dflt I64) i=decide (g.getD i (Ty.dflt I64)=g'.getD i (Ty.dflt I64)):=rfl;refine ⟨fun hlt=>⟨⟨by omega,hlt⟩,⟨by omega,by omega⟩,fun h=> ?_,fun h=>⟨hlt,q0Z hall ?_,⟨[],rfl⟩,?_⟩⟩,fun hge=> ?_⟩
 · rw [bad hlt (hgd.trans (decide_eq_false h)),AW]
 · exact hgd.trans (decide_eq_true h)
 · with_reducible refine sx1 hwr ?_;trivial
 rw [fin hge,AJ];clear hall bad fin hgd;refine q0X (fun k=>[(6,.raw (.int .i64 ((k:Nat):Int)))]) (List.length w) (fun j=>(eqAt w w' PrinT.dflt) j=true) (by first|decide|simp) (fun i=>rfl) ?_ fun k hik hallk=> ?_
 · (with_reducible refine sxE ?_<;>try exact True.intro)
   all_goals (try rfl)
 have hwrk:=wsx k (by omega)
 refine gQ ?_;have badk:k< (List.length w)→(eqAt w w' PrinT.dflt) k=false→allN (List.length w) (eqAt w w' PrinT.dflt)=false:=fun hlt hv=>q0y hlt hv;have fink:¬k< (List.length w)→allN (List.length w) (eqAt w w' PrinT.dflt)=true:=fun h=>q0B fun j hj=>hallk j (by omega)
 try dsimp only at badk fink hallk
 have hgd:eqAt w w' PrinT.dflt k=decide (w.getD k PrinT.dflt=w'.getD k PrinT.dflt):=rfl;refine ⟨fun hlt=>⟨⟨by omega,hlt⟩,⟨by omega,by omega⟩,q0l (j3X (w.getD k PrinT.dflt) (w'.getD k PrinT.dflt) (o5.2 _ (q1a hlt))) ?_⟩,fun hge=>q0a (j3X c c' o1) ?_⟩
 · cases hn:decide (w.getD k PrinT.dflt=w'.getD k PrinT.dflt) with
   |false=>
    refine gQ ?_;rw [badk hlt (hgd.trans hn),AW]
   |true=>
    refine gQ ?_;refine ⟨hlt,q0Z hallk (hgd.trans hn),⟨[],rfl⟩,?_⟩;with_reducible refine sx1 hwrk ?_;trivial
 rw [fink hge,AJ];refine gQ ?_;exact ⟨fun e1=>⟨fun e2=>by rw [decide_eq_true e1,decide_eq_true e2,AJ,AJ],fun e2=>by rw [decide_eq_false e2,AW,BN]⟩,fun e1=>by rw [decide_eq_false e1,AW]⟩
set_option synthInstance.maxSize 2000
set_option synthInstance.maxHeartbeats 400000
theorem z9R(l l':List Int)(hl:(Ty.slice I64).ok l):PC Tryz.prog 79 [.isl I64 l,.isl I64 l'] (rB (decide (l=l'))):=by
 have hlen:l.length≤1125899906842624:=hl.1;have key:=sameN l l' (Ty.dflt I64);refine q0w rfl rfl ?_;refine rQ fi79 ?_<;>try with_reducible exact True.intro
 repeat' (first
  | (with_reducible refine And.intro ?_ ?_)
  | (with_reducible intro _))
 all_goals (skip)
 · grind
 refine q0X (fun i=>[(13,.raw (.int .i64 ((i:Nat):Int)))]) (l.length) (fun j=>(eqAt l l' (Ty.dflt I64)) j=true) (by first|decide|simp) (fun i=>rfl) ?_ fun i hi hall=> ?_
 · (with_reducible refine sxE ?_<;>try exact True.intro)
   all_goals (try rfl)
 have hwr:=wsx i (by omega)
 refine gQ ?_;have bad:i< (l.length)→(eqAt l l' (Ty.dflt I64)) i=false→allN (l.length) (eqAt l l' (Ty.dflt I64))=false:=fun hlt hv=>q0y hlt hv;have fin:¬i< (l.length)→allN (l.length) (eqAt l l' (Ty.dflt I64))=true:=fun h=>q0B fun j hj=>hall j (by omega)
 try dsimp only at bad fin hall
 repeat' (first
  | (refine q0a (skip) ?_;refine uQ 600 _ ?_;simp (maxSteps:=3000000) only [go_sem,↓zA,↓reduceIte,↓reduceDIte] <;>try simp only [zB])
  | (refine q0l (skip) ?_;refine uQ 600 _ ?_;simp (maxSteps:=3000000) only [go_sem,↓zA,↓reduceIte,↓reduceDIte] <;>try simp only [zB])
  | (refine q0E (skip) ?_;refine uQ 600 _ ?_;simp (maxSteps:=3000000) only [go_sem,↓zA,↓reduceIte,↓reduceDIte] <;>try simp only [zB])
  | (with_reducible refine And.intro ?_ ?_)
  | (with_reducible intro _))
 all_goals (first| (with_reducible (refine (id ?_:SoundI _ _ _))) | ((try simp only [Ty.dflt] at*);first|omega| (refine ⟨by omega,q0Z hall (by grind [eqAt]),⟨_,by first|rfl|exact List.append_assoc _ _ _| (simp only [List.append_assoc,Ay,Au];rfl)⟩,?_⟩;simp only [hwr,go_sem,↓zA,↓reduceIte,↓reduceDIte] <;> (first|rfl| (grind [eqAt]))) | (refine ⟨_,rfl⟩) | (refine ⟨_,List.append_assoc _ _ _⟩) | (grind [eqAt])))
theorem j1S(l l':List Prin)(hl:(Ty.slice PrinT).ok l):PC Tryz.prog 80 [.isl PrinT l,.isl PrinT l',.fn 78 [] []] (rB (decide (l=l'))):=by
 have hlen:l.length≤1125899906842624:=hl.1;have hok:=hl.2;have key:=sameN l l' PrinT.dflt;refine q0w rfl rfl ?_;refine rQ fi80 ?_;refine ⟨fun h=> ?_,fun h=> ?_⟩
 · rw [decide_eq_false (fun e=>h (by rw [e]))]
 refine q0X (fun i=>[(17,.raw (.int .i64 ((i:Nat):Int)))]) (l.length) (fun j=>(eqAt l l' PrinT.dflt) j=true) (by first|decide|simp) (fun i=>rfl) ?_ fun i hi hall=> ?_
 · (with_reducible refine sxE ?_<;>try exact True.intro)
   all_goals (try rfl)
 have hwr:=wsx i (by omega)
 refine gQ ?_;have bad:i< (l.length)→(eqAt l l' PrinT.dflt) i=false→allN (l.length) (eqAt l l' PrinT.dflt)=false:=fun hlt hv=>q0y hlt hv;have fin:¬i< (l.length)→allN (l.length) (eqAt l l' PrinT.dflt)=true:=fun h=>q0B fun j hj=>hall j (by omega)
 try dsimp only at bad fin hall
 have hgd:eqAt l l' PrinT.dflt i=decide (l.getD i PrinT.dflt=l'.getD i PrinT.dflt):=rfl;have hll:l.length=l'.length:=by omega
 refine ⟨fun hlt=>⟨⟨by omega,hlt⟩,⟨by omega,by omega⟩,q0a (q8O (l.getD i PrinT.dflt) (l'.getD i PrinT.dflt) (hok _ (q1a hlt))) ?_⟩,fun hge=> ?_⟩
 · cases hn:decide (l.getD i PrinT.dflt=l'.getD i PrinT.dflt) with
   |false=>
    refine gQ ?_;rw [decide_eq_false (fun e=>by have:=bad hlt (hgd.trans hn);rw [(key.1 e).2] at this;cases this)]
   |true=>
    refine gQ ?_;refine ⟨hlt,q0Z hall (hgd.trans hn),⟨[_,_],rfl⟩,?_⟩;with_reducible refine sx1 hwr ?_;trivial
 rw [decide_eq_true (key.2 ⟨hll,fin hge⟩)]
theorem z7W(p q:Pac)(ho:PacT.ok p):PC Tryz.prog 33 [.agg (PacT.cells p),.agg (PacT.cells q)] (rB (decide (p=q))):=by
 obtain ⟨c,a,u,g,w⟩:=p;obtain ⟨c',a',u',g',w'⟩:=q;obtain ⟨o1,_,_,o4,o5⟩:=ho;have hd:decide (((c,a,u,g,w):Pac)=(c',a',u',g',w'))=(decide (c=c') && (decide (a=a') && (decide (u=u') && (decide (g=g') && decide (w=w'))))):=by
  rw [BE];simp only [decide_eq_true_eq,Ai,Prod.mk.injEq]
 rw [show rB (decide (((c,a,u,g,w):Pac)=(c',a',u',g',w')))=_ from congrArg (fun b=>rB b) hd]
 clear hd;have e1:=q8O c c' o1;have e2:=z9R g g' o4;have e3:=j1S w w' o5;refine q0w rfl rfl ?_;refine rQ fi33 ?_<;>try with_reducible exact True.intro
 repeat' (first
  | (refine q0a (e1) ?_;refine uQ 600 _ ?_;simp (maxSteps:=3000000) only [go_sem,↓zA,↓reduceIte,↓reduceDIte] <;>try simp only [zB])
  | (refine q0l (e1) ?_;refine uQ 600 _ ?_;simp (maxSteps:=3000000) only [go_sem,↓zA,↓reduceIte,↓reduceDIte] <;>try simp only [zB])
  | (refine q0E (e1) ?_;refine uQ 600 _ ?_;simp (maxSteps:=3000000) only [go_sem,↓zA,↓reduceIte,↓reduceDIte] <;>try simp only [zB])
  | (refine q0a (e2) ?_;refine uQ 600 _ ?_;simp (maxSteps:=3000000) only [go_sem,↓zA,↓reduceIte,↓reduceDIte] <;>try simp only [zB])
  | (refine q0l (e2) ?_;refine uQ 600 _ ?_;simp (maxSteps:=3000000) only [go_sem,↓zA,↓reduceIte,↓reduceDIte] <;>try simp only [zB])
  | (refine q0E (e2) ?_;refine uQ 600 _ ?_;simp (maxSteps:=3000000) only [go_sem,↓zA,↓reduceIte,↓reduceDIte] <;>try simp only [zB])
  | (refine q0a (e3) ?_;refine uQ 600 _ ?_;simp (maxSteps:=3000000) only [go_sem,↓zA,↓reduceIte,↓reduceDIte] <;>try simp only [zB])
  | (refine q0l (e3) ?_;refine uQ 600 _ ?_;simp (maxSteps:=3000000) only [go_sem,↓zA,↓reduceIte,↓reduceDIte] <;>try simp only [zB])
  | (refine q0E (e3) ?_;refine uQ 600 _ ?_;simp (maxSteps:=3000000) only [go_sem,↓zA,↓reduceIte,↓reduceDIte] <;>try simp only [zB])
  | (with_reducible refine And.intro ?_ ?_)
  | (with_reducible intro _))
 all_goals (skip)
 all_goals grind
end Go.Proofs.YtmapiojgmbgbgaaGreatDoor
/- Contracts: copies in new memory, of what lies as it lay. -/
namespace Go.Proofs.YtmapiojgmbgbgaaGreatDoor
open Go Go.Sx Go.Proofs
set_option maxRecDepth 100000
set_option maxHeartbeats 4000000

theorem j2z(l:List ByteArray)(hl:l.length≤8796093022208):VC Tryz.prog 143 [.isl .str l] [] (RowK .str l):=by
 refine z6x ?_;refine rQ fi143 ?_;intro b hb;refine ⟨fun h=>z8V (hb h),fun h=>⟨⟨by omega,by omega⟩,?_⟩⟩
 exact z9a (h:=1) rfl (by omega)
variable {q:Nat→Prop} {w0:World}
theorem z7r{x:Ty.str.den}{vs:List Value}(h:Ty.str.rel q w0 x vs):vs= [.string x]:=h.1
theorem z6q{k:IntKind}{x:(Ty.int k).den}{vs:List Value}(h:(Ty.int k).rel q w0 x vs):vs= [.int k x]:=h
theorem j0q{t:Ty}{xs:List t.den}{vs:List Value}(h:(Ty.slice t).rel q w0 xs vs):∃A n c,vs= [.slice A n c]∧Sl q w0 t xs (.slice A n c):=by
 obtain ⟨A,n,c,rfl,_⟩:=id h;exact ⟨A,n,c,rfl,h⟩
theorem q8r{s t:Ty}{x:(Ty.prod s t).den}{vs:List Value}(h:(Ty.prod s t).rel q w0 x vs):∃v1 v2,vs=v1++v2∧s.rel q w0 x.1 v1∧t.rel q w0 x.2 v2:=h

theorem z2R{p:Prin}{vs:List Value}(h:PrinT.rel q w0 p vs):∃A n c,vs= [.slice A n c,.string p.2]∧Sl q w0 .str p.1 (.slice A n c):=by
 obtain ⟨v1,v2,rfl,h1,h2⟩:=q8r h;obtain ⟨A,n,c,rfl,h1⟩:=j0q h1;obtain rfl:=z7r h2;exact ⟨A,n,c,rfl,h1⟩
theorem z6j(p:Prin){vs:List Value}(hv:PrinT.rel q w0 p vs)(hl:p.1.length≤8796093022208):PCZ q w0 Tryz.prog 83 [.agg (rawL vs)] (.agg (PrinT.cells p)):=by
 letI:Ghost:=frzG q w0
 obtain ⟨A,n,c,rfl,h1⟩:=z2R hv;obtain ⟨p1,p2⟩:=p;change p1.length≤_ at hl;refine z3a rfl rfl ?_;refine runZ mixed fi83 ?_<;>try with_reducible exact True.intro
 refine z4X rfl (j2z _ hl) (j3t h1 z4a) (fun h0=> ?_) ?_
 · obtain rfl:_= []:=h0;refine gQ ?_;trivial
 refine gQ ?_;exact ⟨⟨Af _,by omega⟩,Ah (Af _)⟩
end Go.Proofs.YtmapiojgmbgbgaaGreatDoor

namespace Go.Sx
open Go

variable [Ghost] {P:Program} {AQ:Ex→List SV→List SObj→Prop} {k0:Nat} {k:List IT} {k':List It} {t:List SV} {H:List SObj}
variable {all:Array Oper} {G:List Nat} {o:Oper} {ev:Operand→SV} {K:Out→List SObj→Prop}

end Go.Sx
namespace Go.Sx
open Go

variable [Ghost] {P:Program} {AQ:Ex→List SV→List SObj→Prop} {k0:Nat} {k:List IT} {k':List It} {t:List SV} {H:List SObj}
variable {all:Array Oper} {G:List Nat} {o:Oper}

end Go.Sx
namespace Go.Sx
open Go

variable {P:Program} {AQ:Ex→List SV→List SObj→Prop} {k0:Nat} {k:List It} {t:List SV} {H:List SObj}

def flatC:Code→List Code
 |.seq a b=>flatC a++flatC b
 |c=>[c]
theorem q7v[Ghost]{F:Fence}{n:Nat}{E:EnD}{Q:Exit→Act→World→Prop}{id:Nat}{a:Act}{w:World}{k:List It}:∀ (l:List Code),exitT F n P E Q id (l.map .code++k) a w ↔ exitT F n P E Q id k a w
 | []=>Iff.rfl
 |c :: l=>by simp only [AI,Ay,exitT];exact q7v l
theorem q9Z[Ghost]{F:Fence}{n:Nat}{E:EnD}{Q:Exit→Act→World→Prop}:∀ (c:Code) (k:List It) (a:Act) (w:World),wpT F n P E Q ((flatC c).map .code++k) a w→wpT F n P E Q (.code c :: k) a w
 |.seq x y,k,a,w,h=>by
  rw [flatC,Cm,List.append_assoc] at h;have h1:=q9Z x _ a w h;simp only [wpT] at h1⊢;refine wpIn_seq (wpIn_mono h1 fun e a w hq=> ?_);cases e with
  |normal=>
   have h2:=q9Z y k a w hq;simp only [wpT] at h2;exact h2
  |exit id=>exact (q7v _).1 hq
  |_=>exact hq
 |.skip,_,_,_,h=>h
 |.region ..,_,_,_,h=>h
 |.cond ..,_,_,_,h=>h
 |.block ..,_,_,_,h=>h
 |.loop _,_,_,_,h=>h
 |.rangeFunc ..,_,_,_,h=>h
 |.exit _,_,_,_,h=>h
 |.scope _,_,_,_,h=>h
 |.label _,_,_,_,h=>h
 |.goto _,_,_,_,h=>h
 |.ret,_,_,_,h=>h
 |.refuse ..,_,_,_,h=>h

def compAll(P:Program):List Code→Option (List IC)
 | []=>some []
 |c :: cs=>match comp P c,compAll P cs with
  |some x,some l=>some (x :: l)
  |_,_=>none
theorem q8C:∀ {cs:List Code} {l:List IC},compAll P cs=some l→cs.map (comp P)=l.map some
 | [],l,h=>by cases h;rfl
 |c :: cs,l,h=>by
  unfold compAll at h;split at h
  · rename_i x l' h1 h2;cases h;simp only [AI,h1,q8C h2]
  cases h
def splitX(P:Program):List Code→Option (List IC×Array Oper×List IC)
 | []=>none
 |c :: cs=>match comp P c with
  |some (.hnd all)=>match compAll P cs with
   |some l=>some ([],all,l)
   |none=>none
  |some x=>match splitX P cs with
   |some (l,r,l')=>some (x :: l,r,l')
   |none=>none
  |none=>none
theorem z1m:∀ {cs:List Code} {l:List IC} {r:Array Oper} {l':List IC},splitX P cs=some (l,r,l')→∃ (cs1:List Code) (id:Nat) (cs2:List Code),cs=cs1++ .region id r true :: cs2∧cs1.map (comp P)=l.map some∧cs2.map (comp P)=l'.map some
 | [],_,_,_,h=>by cases h
 |c :: cs,l,r,l',h=>by
  unfold splitX at h;split at h
  · rename_i all hx;obtain ⟨id,rfl⟩:=q0J hx;split at h
    · rename_i l1 h1;cases h;exact ⟨[],id,cs,rfl,rfl,q8C h1⟩
    cases h
  · split at h
    · rename_i hx _ _ l1 r1 l1' h1;cases h;obtain ⟨cs1,id,cs2,rfl,g1,g2⟩:=z1m h1;exact ⟨c :: cs1,id,cs2,rfl,by simp only [AI, *],g2⟩
    cases h
  cases h
structure XI where
 ntmps:Nat
 results:List ResultVar
 pre:List IC
 reg:Array Oper
 post:List IC
def xinfo(P:Program)(f:FuncId):Option XI:=
 match P.funcs[f]? with
 |some fn=>match fn.body with
  |some c=>match splitX P (flatC c) with
   |some (l,r,l')=>if fn.name== "runtime.NumGoroutine" then none else some ⟨fn.ntmps,fn.results.toList,l,r,l'⟩
   |none=>none
  |none=>none
 |none=>none
def xreg(P:Program)(f:FuncId):Array Oper:=match xinfo P f with
 |some xi=>xi.reg
 |none=> #[]

theorem rel_codes':∀ {cs:List Code} {l:List IC},cs.map (comp P)=l.map some→RelT P (l.map .ic) (cs.map .code)
 | [],[],_=>rfl
 |c :: cs,ic :: l,h=>by
  simp only [AI,List.cons.injEq] at h;exact ⟨c,_,rfl,h.1,rel_codes' h.2⟩
 | [],_ :: _,h=>by simp at h
 |_ :: _,[],h=>by simp at h
theorem q5Z:∀ (cs:List Code),noStop (cs.map .code)=true
 | []=>rfl
 |_ :: cs=>q5Z cs
def AtReg(P:Program)(AQ:Ex→List SV→List SObj→Prop)(k0:Nat)(xi:XI)(t:List SV)(H:List SObj):Prop:=
 ∀ (id:Nat) (k:List It),noStop k=true→RelT P (xi.post.map .ic) k→ @Sound noGhost P AQ ⟨k0,.code (.region id xi.reg true) :: k,t,H⟩
theorem j4H{f:FuncId}{xi:XI}{args:List SV}{K:Out→List SObj→Prop}(h:xinfo P f=some xi)
 (hs: @SoundI noGhost P (retF P xi.results K) ⟨H.length,xi.pre.map .ic++ [.stop (AtReg P (retF P xi.results K) H.length xi)],args++List.replicate (xi.ntmps-args.length) .any,H⟩):VC P f args H K:=by
 unfold xinfo at h;split at h
 · rename_i fn hf;split at h
   · rename_i c hb;split at h
     · rename_i l r l' hsp;split at h
       · cases h
       rename_i hn;cases h;refine ⟨by simp [enters,hf,hb];simpa using hn,?_⟩
       have hq:retQ P fn K=retF P fn.results.toList K:=by funext e t H;cases e<;>rfl
       obtain ⟨cs1,id,cs2,hcs,g1,g2⟩:=z1m hsp;refine q7b hf hb ?_;rw [hq];intro E r n C a h0 hd;refine q9Z c [] a C.w ?_;rw [Aj,hcs,Cm];have h1:=q0f hs (q6G g1) E r n C a h0 hd;refine q5F (Q1:=conc E (retF P fn.results.toList K)) (fun e a w _ h=>h) (fun id a w ⟨_,_,_,hq,_⟩=>hq) (fun a C t H hΦ hd=> ?_) cs1 a C.w h1;exact hΦ id (cs2.map .code) (q5Z cs2) (rel_codes' g2) E r n C a h0 hd
     cases h
   cases h
 cases h
end Go.Sx
namespace Go.Sx
open Go

variable {P:Program} {AQ:Ex→List SV→List SObj→Prop} {k0:Nat}

/- Values that hold nothing immutable. -/
mutual
def SV.noI:SV→Bool
 |.any|.raw _|.ptr .. |.rptr .. |.bld .. |.osl .. |.csl .. |.mp _=>true
 |.agg l=>SV.noIL l
 |.tup l=>SV.noIL l
 |.fn _ a b=>SV.noIL a&& SV.noIL b
 |.iface _ x=>SV.noI x
 |_=>false
def SV.noIL:List SV→Bool
 | []=>true
 |s :: l=>SV.noI s&& SV.noIL l
end
mutual
theorem z7s{C:Cx}{I:Nat→Prop}:∀ {s:SV} {v:Value},s.noI=true→s.den C v→s.den {C with I:=I} v
 |.any,_,_,_=>by rw [SV.den];trivial
 |.raw u,v,_,h=>by rw [SV.den] at h⊢;exact h
 |.isl ..,_,h,_=>by simp [SV.noI] at h
 |.fsl ..,_,h,_=>by simp [SV.noI] at h
 |.iptr ..,_,h,_=>by simp [SV.noI] at h
 |.dat ..,_,h,_=>by simp [SV.noI] at h
 |.imap ..,_,h,_=>by simp [SV.noI] at h
 |.ptr h off,v,_,d=>by rw [SV.den] at d⊢;exact d
 |.rptr h t i k,v,_,d=>by rw [SV.den] at d⊢;exact d
 |.bld h t n,v,_,d=>by rw [SV.den] at d⊢;exact d
 |.osl h t off n,v,_,d=>by rw [SV.den] at d⊢;exact d
 |.csl h t k i n,v,_,d=>by rw [SV.den] at d⊢;exact d
 |.mp h,v,_,d=>by rw [SV.den] at d⊢;exact d
 |.agg l,v,h,d=>by
  rw [SV.den] at d⊢;obtain ⟨vs,hv,hl⟩:=d;exact ⟨vs,hv,q4F (by simpa [SV.noI] using h) hl⟩
 |.tup l,v,h,d=>by
  rw [SV.den] at d⊢;obtain ⟨vs,hv,hl⟩:=d;exact ⟨vs,hv,q4F (by simpa [SV.noI] using h) hl⟩
 |.fn f l1 l2,v,h,d=>by
  rw [SV.den] at d⊢;obtain ⟨v1,v2,hv,h1,h2⟩:=d;simp [SV.noI] at h;exact ⟨v1,v2,hv,q4F h.1 h1,q4F h.2 h2⟩
 |.iface T x,v,h,d=>by
  rw [SV.den] at d⊢;obtain ⟨u,hv,h1⟩:=d;exact ⟨u,hv,z7s (by simpa [SV.noI] using h) h1⟩
theorem q4F{C:Cx}{I:Nat→Prop}:∀ {l:List SV} {vs:List Value},SV.noIL l=true→SV.denL C l vs→SV.denL {C with I:=I} l vs
 | [],_,_,h=>by rw [SV.denL] at h⊢;exact h
 |s :: l,_,hc,h=>by
  rw [SV.denL] at h⊢;obtain ⟨v,us,rfl,h1,h2⟩:=h;simp [SV.noIL] at hc;exact ⟨v,us,rfl,z7s hc.1 h1,q4F hc.2 h2⟩
end
def SObj.noI:SObj→Bool
 |.cells _ cs=>SV.noIL cs
 |.row t _=>t.flat
 |.map _ _ vs=>SV.noIL vs
 |_=>true
theorem TabT.flat{C C':Cx}{H H':List SObj}(hf:(datList.all fun e=>e.2.1.flat)=true)(h:TabT C H)(e:C'.w=C.w)(ho:∀b,OwnB C' H' b→OwnB C H b):TabT C' H' where
 tab:=fun x hx=>by
  obtain ⟨h1,T,fz,h2⟩:=h.tab x hx;exact ⟨⟨by rw [e];exact h1.1,fun y=>h1.2 (ho _ y)⟩,T,fz,by rw [e];exact h2⟩
 dat:=fun x hx=>by
  obtain ⟨h1,us,h2,h3⟩:=h.dat x hx;refine ⟨⟨by rw [e];exact h1.1,fun y=>h1.2 (ho _ y)⟩,us,Ty.rel_flat _ _ _ (A3.1 hf x hx) h2,fun j u hu=> ?_⟩
  rw [e];exact h3 j u hu
theorem j3B{l:List IC}:∀x∈(l.map IT.ic),∃c,x= .ic c:=fun x hx=>by
 obtain ⟨c,_,rfl⟩:=BX.1 hx;exact ⟨c,rfl⟩
end Go.Sx
namespace Go.Sx
open Go

variable {P:Program} {AQ:Ex→List SV→List SObj→Prop} {k0:Nat}

theorem j1K{op:Op}{t:Ty}{by_:Nat}{x y:Operand}(h:compOp P op=some (.app t by_ x y)):∃ (c:Call) (tS tX e:TypeId) (i:TypeInfo) (z:Value) (bb:Bool),op= .call c∧c.callee= .builtin .append∧c.args= #[x,y]∧c.argTypes= #[tS,tX]∧
 P.underlying tS=some (.slice e)∧srcType P tX=some bb∧P.info? e=some i∧by_=i.bytes∧i.size=t.size∧i.zero=some z∧z.cells.size=t.size:=by
 unfold compOp at h;repeat' split at h
 all_goals first
  |contradiction
  | (simp only [Option.some.injEq,IOp.app.injEq] at h;obtain ⟨rfl,rfl,rfl,rfl⟩:=h;rename_i hsz;exact ⟨_,_,_,_,_,_,_,rfl,by assumption,Bh.1 (by assumption),Bh.1 (by assumption),by assumption,by assumption,by assumption,rfl,hsz.1,by assumption,hsz.2⟩)
  | (simp only [BC,Aq,Option.some.injEq,reduceCtorEq,and_false,exists_false] at h;done)
  | (simp [BC] at h;done)

def flatI:IC→List IC
 |.seq a b=>flatI a++flatI b
 |c=>[c]
theorem q8j:∀ {k1 k2:List IT} {l1 l2:List It},(∀x∈k1,∃c,x= .ic c)→RelT P k1 l1→RelT P k2 l2→RelT P (k1++k2) (l1++l2)
 | [],_,_,_,_,h,h2=>by cases h;exact h2
 |x :: k1,k2,l1,l2,hc,h,h2=>by
  obtain ⟨c,rfl⟩:=hc x (by simp)
  obtain ⟨c',r,rfl,h3,h4⟩:=h;exact ⟨c',r++l2,rfl,h3,q8j (fun x hx=>hc x (by simp [hx])) h4 h2⟩
theorem rel_flat:∀ (ic:IC) {c:Code},comp P c=some ic→RelT P ((flatI ic).map .ic) ((flatC c).map .code):=by
 intro ic;induction ic with
 |seq x y ihx ihy=>
  intro c h;obtain ⟨a,b,rfl,h1,h2⟩:=q0J h;simp only [flatI,flatC,Cm];exact q8j j3B (ihx h1) (ihy h2)
 |_=>
  intro c h;have hc:flatC c= [c]:=by
   cases c with
   |seq a b=>simp only [comp] at h;split at h<;>cases h
   |_=>rfl
  rw [hc];exact ⟨c,[],rfl,h,rfl⟩
end Go.Sx
namespace Go.Sx
open Go

variable {P:Program} {AQ:Ex→List SV→List SObj→Prop} {k0:Nat} {k:List It} {t:List SV} {H:List SObj}

theorem z2m{C:Cx}{f:FuncId}{ty:Ty}{x:ty.den}{ws:List Value}(hflat:(datList.all fun e=>e.2.1.flat)=true)(htab:TabT C H)(hkn:ty.known=true)(hw:Wd C H)(ho:ty.ok x)(hr:ty.rel C.I C.w x ws)(hp:∀ (q:Nat→Prop) (w0:World) (vs:List Value),ty.rel q w0 x vs→PCZ q w0 P f [.agg (rawL vs)] (.agg (ty.cells x))):
 Calls P f #[.agg ws.toArray] C.w fun e w'=>∃ (q:Nat→Prop) (vs:List Value),e= .returned (.agg vs.toArray)∧ty.rel q w' x vs∧(∀b,q b→C.w.heap.size≤b∧b<w'.heap.size∧Unf w' b)∧Wd {C with w:=w'} H∧Ext ⟨C,H⟩ {C with w:=w'} H:=by
 let C0:Cx:={C with I:=fun _=>False,n:=0}
 have hw0:Wd C0 []:=⟨rfl,fun h o ho=>by simp at ho,fun b ⟨h,o,ho,_⟩=>by simp at ho,fun h h' o o' b ho=>by simp at ho,fun b hb=>hb.elim⟩
 have hz:ZInv C.I C.w C0 []:=fun b hb=>⟨hw.imm b hb,fun h=>h,fun ⟨h,o,ho,_⟩=>by simp at ho,rfl⟩
 have h1:=(hp C.I C.w ws hr).2 [] (fun o H'=>o= .ret (.agg (ty.cells x))∧H'= []) ⟨rfl,rfl⟩ C0 [.agg ws.toArray] hw0 (htab.flat hflat rfl fun b x=>absurd x q8S) hz (q0c.2 ⟨_,[],rfl,by rw [SV.den];exact ⟨_,rfl,q0Y _⟩,q0o.2 rfl⟩)
 refine h1.mono ?_;rintro e w' ⟨o,H',C',⟨rfl,rfl⟩,rfl,hw',hx,v,rfl,hd⟩;rw [SV.den] at hd;obtain ⟨vs,rfl,hd⟩:=hd;have hold:∀b,b<C.w.heap.size→C'.w.heap[b]?=C.w.heap[b]?:=fun b hb=>hx.frame b hb (fun ⟨h,o,ho,_⟩=>by simp at ho)
 obtain ⟨g1,g2⟩:=z4C hw hx.size hold hx.os hx.tape hx.output;refine ⟨C'.I,vs,rfl,ty.cells_rel _ _ hkn ho hd,fun b hb=> ?_,g1,g2⟩;rcases hx.immNew b hb with h2| ⟨h2| ⟨h,o,ho,_⟩,h3⟩
 · exact h2.elim
 · exact ⟨h2,hw'.imm b hb,h3⟩
 simp at ho
end Go.Sx
namespace Go.Sx
open Go

variable {P:Program} {AQ:Ex→List SV→List SObj→Prop} {k0:Nat} {k:List It} {t:List SV} {H:List SObj}

structure C2P where
 f:FuncId
 p:Nat
 d0:Nat
 d1:Nat
 d2:Nat
 d3:Nat
 d4:Nat
 d5:Nat
 T:TypeId
 m:Nat
 zs:List Value
 ty:Ty
 x:ty.den

def needs(o:Oper)(j:Nat):Prop:=∃e∈o.after,Region.binds .any e=true∧e.on=j
structure IsC2 (P:Program) (all:Array Oper) (c:C2P):Prop where
 size:all.size=8
 top:∀ (i:Nat) (o:Oper),all[i]?=some o→∀e∈o.after,e.on<i
 o0:∃o,all[0]?=some o∧o.op= .load c.T (.tmp c.p)∧o.dst=some c.d0∧o.guard=none
 o1:∃o cl,all[1]?=some o∧o.op= .call cl∧cl.callee= .value (.func c.f)∧cl.args= #[.tmp c.d0]∧o.dst=some c.d1∧o.guard=none∧needs o 0
 o2:∃o,all[2]?=some o∧o.op= .load c.T (.tmp c.p)∧o.dst=some c.d2∧o.guard=none
 o3:∃o cl,all[3]?=some o∧o.op= .call cl∧cl.callee= .value (.func c.f)∧cl.args= #[.tmp c.d2]∧o.dst=some c.d3∧o.guard=none∧needs o 2
 o4:∃o,all[4]?=some o∧o.op= .alloc c.T∧o.dst=some c.d4∧o.guard=none
 o5:∃o,all[5]?=some o∧o.op= .alloc c.T∧o.dst=some c.d5∧o.guard=none
 o6:∃o,all[6]?=some o∧o.op= .store c.T (.tmp c.d4) (.tmp c.d1)∧o.dst=none∧o.guard=none∧needs o 4∧needs o 1
 o7:∃o,all[7]?=some o∧o.op= .store c.T (.tmp c.d5) (.tmp c.d3)∧o.dst=none∧o.guard=none∧needs o 5∧needs o 3
 ag:aggOf P c.T=some (some c.m)
 zero:(P.info? c.T).bind (fun i=>i.zero.map (·.cells.toList))=some c.zs
 zlen:c.zs.length=c.m
 tsz:c.ty.size=c.m
 en:enters P c.f=true
 nd:[c.p,c.d0,c.d1,c.d2,c.d3,c.d4,c.d5].Nodup

def Far(E:EnD)(C:Cx)(H:List SObj)(b:Nat):Prop:=E.C.w.heap.size≤b∧b<C.w.heap.size∧¬C.I b∧¬OwnB C H b∧Unf C.w b
theorem Far.ext{E:EnD}{C C':Cx}{b:Nat}(h:Far E C H b)(hx:Ext ⟨C,H⟩ C' H):Far E C' H b∧C'.w.heap[b]?=C.w.heap[b]?:=by
 obtain ⟨h0,h1,h2,h3,h4⟩:=h;obtain ⟨g1,g2,g3,g4⟩:=z1L hx h1 h2 h3;exact ⟨⟨h0,g1,g2,g3,h4.keep g4⟩,g4⟩

def upd(β:Nat→Bool)(i:Nat):Nat→Bool:=fun j=>if j=i then true else β j
structure R2 (c:C2P) (E:EnD) (tm:List SV) (H:List SObj) (β:Nat→Bool) (vs:List Value) (q:Nat→Prop) (b4 b5:Nat) (C:Cx) (a:Act):Prop where
 den: @Den noGhost E C tm H a
 f0:β 0=true→∃ws:List Value,a.tmps[c.d0]?=some (.agg ws.toArray)∧SV.denL C (c.ty.cells c.x) ws
 f1:β 1=true→a.tmps[c.d1]?=some (.agg vs.toArray)∧c.ty.rel q C.w c.x vs∧∀b,q b→Far E C H b
 f2:β 2=true→∃ws:List Value,a.tmps[c.d2]?=some (.agg ws.toArray)∧SV.denL C (c.ty.cells c.x) ws
 f3:β 3=true→∃ws:List Value,a.tmps[c.d3]?=some (.agg ws.toArray)∧SV.denL C (c.ty.cells c.x) ws
 f4:β 4=true→a.tmps[c.d4]?=some (.pointer (some ⟨b4,0,none⟩))∧Far E C H b4∧(β 1=true→¬q b4)∧C.w.heap[b4]?=some (.cells (if β 6=true then vs else c.zs).toArray c.T (0,0))
 f5:β 5=true→a.tmps[c.d5]?=some (.pointer (some ⟨b5,0,none⟩))∧Far E C H b5∧(β 1=true→¬q b5)∧(β 4=true→b5≠b4)∧∃us:List Value,C.w.heap[b5]?=some (.cells us.toArray c.T (0,0))∧us.length=c.m∧(β 7=true→SV.denL C (c.ty.cells c.x) us)
 i6:β 6=true→β 4=true∧β 1=true
 i7:β 7=true→β 5=true∧β 3=true

variable {c:C2P} {E:EnD} {tm:List SV} {β:Nat→Bool} {vs:List Value} {q:Nat→Prop} {b4 b5:Nat} {C C':Cx} {a:Act}

theorem R2.ext(r:R2 c E tm H β vs q b4 b5 C a)(hw:Wd C' H)(hx:Ext ⟨C,H⟩ C' H):R2 c E tm H β vs q b4 b5 C' a where
 den:=⟨hw,r.den.ext.trans hx,⟨r.den.defs.1,⟨r.den.defs.2.1.tab.next hx,r.den.defs.2.1.old⟩,trivial⟩,q0d hx.evo r.den.tmps⟩
 f0:=fun h=>by obtain ⟨ws,h1,h2⟩:=r.f0 h;exact ⟨ws,h1,q0d hx.evo h2⟩
 f1:=fun h=>by
  obtain ⟨h1,h2,h3⟩:=r.f1 h;exact ⟨h1,Ty.rel_keep (fun b hb=>⟨hb,((h3 b hb).ext hx).2⟩) _ _ _ h2,fun b hb=>((h3 b hb).ext hx).1⟩
 f2:=fun h=>by obtain ⟨ws,h1,h2⟩:=r.f2 h;exact ⟨ws,h1,q0d hx.evo h2⟩
 f3:=fun h=>by obtain ⟨ws,h1,h2⟩:=r.f3 h;exact ⟨ws,h1,q0d hx.evo h2⟩
 f4:=fun h=>by
  obtain ⟨h1,h2,h3,h4⟩:=r.f4 h;exact ⟨h1,(h2.ext hx).1,h3,(h2.ext hx).2.trans h4⟩
 f5:=fun h=>by
  obtain ⟨h1,h2,h3,h4,us,h5,h6,h7⟩:=r.f5 h;exact ⟨h1,(h2.ext hx).1,h3,h4,us,(h2.ext hx).2.trans h5,h6,fun h=>q0d hx.evo (h7 h)⟩
 i6:=r.i6
 i7:=r.i7

theorem j1E{d:Nat}{v:Value}(h: @Den noGhost E C tm H a)(hd:tm[d]?=some .any): @Den noGhost E C tm H (a.put (some d) v):=by
 refine ⟨h.wd,h.ext,⟨h.defs.1,h.defs.2.1,trivial⟩,?_⟩;simp only [Act.put,BL];have h1:=q1W (i:=d) (s:=.any) (v:=v) h.tmps (by rw [SV.den];trivial)
 have h2:tm.set d .any=tm:=by
  apply Bd;intro i;by_cases e:d=i
  · subst e;rw [As (Aa.1 hd).1,hd]
  rw [Ao e]
 rwa [h2] at h1
theorem q5x{d:Nat}{v:Value}(h: @Den noGhost E C tm H a)(hd:tm[d]?=some .any):(a.put (some d) v).tmps[d]?=some v:=by
 have hlt:d<a.tmps.size:=by
  have:=q0t h.tmps;rw [Av] at this;rw [this];exact (Aa.1 hd).1
 simp [Act.put,hlt]
theorem j3S{d e:Nat}{v:Value}(h:d≠e):(a.put (some d) v).tmps[e]?=a.tmps[e]?:=by
 simp only [Act.put];exact BS h

theorem R2.put{i d:Nat}{v:Value}(r:R2 c E tm H β vs q b4 b5 C a)(hnd:[c.p,c.d0,c.d1,c.d2,c.d3,c.d4,c.d5].Nodup)(hi:β i=false)(hd:[c.d0,c.d1,c.d2,c.d3,c.d4,c.d5][i]?=some d)(ht:tm[d]?=some .any):R2 c E tm H β vs q b4 b5 C (a.put (some d) v):=by
 have key:∀ (j e:Nat),[c.d0,c.d1,c.d2,c.d3,c.d4,c.d5][j]?=some e→β j=true→(a.put (some d) v).tmps[e]?=a.tmps[e]?:=fun j e he hj=>j3S fun h=>by
  subst h;have hnd':[c.d0,c.d1,c.d2,c.d3,c.d4,c.d5].Nodup:=(Bk.1 hnd).2;have h1:=(Aa.1 hd).1;have:i=j:=(List.getElem?_inj h1 hnd').1 (hd.trans he.symm);subst this;rw [hi] at hj;cases hj
 refine ⟨j1E r.den ht,fun h=> ?_,fun h=> ?_,fun h=> ?_,fun h=> ?_,fun h=> ?_,fun h=> ?_,r.i6,r.i7⟩
 · obtain ⟨ws,h1,h2⟩:=r.f0 h;exact ⟨ws,(key 0 _ rfl h).trans h1,h2⟩
 · obtain ⟨h1,h2⟩:=r.f1 h;exact ⟨(key 1 _ rfl h).trans h1,h2⟩
 · obtain ⟨ws,h1,h2⟩:=r.f2 h;exact ⟨ws,(key 2 _ rfl h).trans h1,h2⟩
 · obtain ⟨ws,h1,h2⟩:=r.f3 h;exact ⟨ws,(key 3 _ rfl h).trans h1,h2⟩
 · obtain ⟨h1,h2⟩:=r.f4 h;exact ⟨(key 4 _ rfl h).trans h1,h2⟩
 obtain ⟨h1,h2⟩:=r.f5 h;exact ⟨(key 5 _ rfl h).trans h1,h2⟩

theorem q6u{d:Nat}{v:Value}(h:a.tmps[d]?=some v):a.eval (.tmp d)=v:=by
 simp only [Act.eval];rw [Br,h];rfl

theorem j3L{o:Oper}{p h:Nat}{T':TypeId}(hop:o.op= .load c.T (.tmp p))(hag:aggOf P c.T=some (some c.m))(hm:c.ty.size=c.m)(hd: @Den noGhost E C tm H a)(hp:tm[p]?=some (.ptr h 0))(hH:H[h]?=some (.cells T' (c.ty.cells c.x))):
 ∃ws:List Value,(execOp a.eval o).run P C.w= .ok (.value (.agg ws.toArray)) C.w∧SV.denL C (c.ty.cells c.x) ws:=by
 obtain ⟨v,hv,hs⟩:=q1X hd.tmps hp;rw [SV.den] at hs;obtain ⟨_,b,hb,rfl⟩:=hs;obtain ⟨b',us,hb',hcell,hden⟩:=hd.wd.obj h _ hH;rw [hb] at hb';cases hb';have hv':a.eval (.tmp p)= .pointer (some ⟨b,0,none⟩):=q6u (by simpa using hv)
 have hl:(c.ty.cells c.x).length=c.m:=by rw [Ty.cells_length,hm]
 obtain ⟨v,h1,h2⟩:=q1f (P:=P) hag (b:=b) (base:=0) (off:=0) (s:=.agg (c.ty.cells c.x)) hden (fun j u hj=>by rw [Ac,q0g hcell];exact hj) (by
  simp only [pick,Ac,hl,Af,if_true,Ar,Option.some.injEq,SV.agg.injEq]
  rw [←hl,AA])
 rw [SV.den] at h2;obtain ⟨ws,rfl,h2⟩:=h2;rw [Ac] at h1;exact ⟨ws,by simp [execOp,hop,hv',Instr.loadAt,Instr.sureAddr,Result.andThen,h1],h2⟩

theorem z5t{o:Oper}{cl:Call}{f:FuncId}{d:Nat}{v:Value}{w:World}{r:Option Nat}{n:Nat}{R:Ending→World→Prop}{next:Act→World→Prop}{Q:Exit→Act→World→Prop}(hop:o.op= .call cl)(hc:cl.callee= .value (.func f))(ha:cl.args= #[.tmp d])(hen:enters P f=true)
 (hv:a.tmps[d]?=some v)(hcall:Calls P f #[v] w R)(hR:∀e w',R e w'→∃u,e= .returned u∧next (a.put o.dst u) w'):o.wpIn (Fw r) n P a w next Q:=by
 refine ⟨fun f _=>q4q r f,?_⟩;rw [Oper.semAt_eq _ _ _ (by rw [hop];intro c hc;cases hc)]
 have he:=q6u hv;have hrun:(execOp a.eval o).run P w= .ok (.enter f #[v]) w:=by
  have hf:a.eval (.func f)= .func (.func f) #[] #[]:=rfl;simp [execOp,hop,resolve,hc,hf,ha,he,Deferred.ofValue,invoke,q2V hen]
 rw [hrun];refine ⟨(fun hd=>by cases hd),q3L (hcall.mono fun e w' h=> ?_)⟩
 obtain ⟨u,rfl,hn⟩:=hR e w' h;exact hn

theorem z3A{o:Oper}{T:TypeId}{zs:List Value}(hop:o.op= .alloc T)(hz:(P.info? T).bind (fun i=>i.zero.map (·.cells.toList))=some zs)(w:World):
 (execOp a.eval o).run P w= .ok (.value (.pointer (some ⟨w.heap.size,0,none⟩))) (w.alloc (.cells zs.toArray T)):=by
 cases hi:P.info? T with
 |none=>simp [hi] at hz
 |some i=>
  cases hz0:i.zero with
  |none=>simp [hi,hz0] at hz
  |some z=>
   simp [hi,hz0] at hz;simp [execOp,hop,Instr.alloc,zeroValue,typeInfo,hi,hz0,Result.andThen,newVar,newRow,←hz]

theorem z0E{T:TypeId}{zs:List Value}(hd: @Den noGhost E C tm H a):
 Wd {C with w:=C.w.alloc (.cells zs.toArray T)} H∧Ext ⟨C,H⟩ {C with w:=C.w.alloc (.cells zs.toArray T)} H∧Far E {C with w:=C.w.alloc (.cells zs.toArray T)} H C.w.heap.size∧(C.w.alloc (.cells zs.toArray T)).heap[C.w.heap.size]?=some (.cells zs.toArray T (0,0)):=by
 have hsz:(C.w.alloc (.cells zs.toArray T)).heap.size=C.w.heap.size+1:=CX _;obtain ⟨g1,g2⟩:=z4C (w':=C.w.alloc (.cells zs.toArray T)) hd.wd (by rw [hsz];exact Cs _) (fun b hb=>q1v _ _ hb) rfl rfl rfl
 have hnew:(C.w.alloc (.cells zs.toArray T)).heap[C.w.heap.size]?=some (.cells zs.toArray T (0,0)):=q1w _ _;refine ⟨g1,g2,⟨hd.ext.size,by show _< (C.w.alloc _).heap.size;rw [hsz];omega,fun hi=>absurd (hd.wd.imm _ hi) (BR _),fun ho=>absurd (hd.wd.own _ ho).2 (BR _),fun c T fz hc=> ?_⟩,hnew⟩
 simp only at hc;rw [hnew] at hc;cases hc;simp

theorem z0I{b:Nat}{T:TypeId}{zs us:List Value}(hd: @Den noGhost E C tm H a)(hf:Far E C H b)(hcell:C.w.heap[b]?=some (.cells zs.toArray T (0,0)))(hl:us.length=zs.length):
 let w':=C.w.setCells b 0 us
 w'.heap[b]?=some (.cells us.toArray T (0,0))∧(∀b',b'≠b→w'.heap[b']?=C.w.heap[b']?)∧ @Den noGhost E {C with w:=w'} tm H a∧Evo C {C with w:=w'}∧Far E {C with w:=w'} H b∧∀b',b'≠b→Far E C H b'→Far E {C with w:=w'} H b':=by
 intro w';obtain ⟨h0,h1,h2,h3,h4⟩:=hf;have hnew:w'.heap[b]?=some (.cells us.toArray T (0,0)):=by
  have:=q1g us 0 C.w zs hcell (by omega)
  rw [this];congr 3;unfold splice;simp [hl]
 have hoth:∀b',b'≠b→w'.heap[b']?=C.w.heap[b']?:=fun b' e=>q0r e _ _ _;have hsz:w'.heap.size=C.w.heap.size:=q0R _ _ _;have hfar:∀b',C.I b'∨OwnB C H b'→b'≠b:=fun b' h e=>by subst e;exact h.elim h2 h3
 have hbs:∀b' m,World.bsize C.w b'=some m→World.bsize w' b'=some m:=fun b' m hm=>by
  by_cases e:b'=b
  · subst e;unfold World.bsize at hm⊢;rw [hnew];rw [hcell] at hm;simp at hm⊢;omega
  unfold World.bsize at hm⊢;rw [hoth b' e];exact hm
 obtain ⟨k1,k2⟩:=z7L hd.wd hsz (fun b' h=>hoth b' (hfar b' h)) hbs;have hx:=hd.ext
 refine ⟨hnew,hoth,⟨k1,⟨hx.evo.trans k2,by show _≤w'.heap.size;rw [hsz];exact hx.size,(q1s _ _ _).trans hx.os,(q0S _ _ _).trans hx.tape,(q0K _ _ _).trans hx.output,
  fun b' g1 g2=>(hoth b' (by omega)).trans (hx.frame b' g1 g2),fun b' hb'=>orMap (hx.immNew b' hb') id fun ⟨x,y⟩=>⟨x,y.keep (hoth b' (hfar b' (.inl hb')))⟩,hx.ownNew,hx.keep0⟩,⟨hd.defs.1,⟨hd.defs.2.1.tab.keep (fun b' h=>⟨h,hoth b' (hfar b' (.inl h))⟩) (fun b' hb g1 g2=>⟨by show _<w'.heap.size;rw [hsz];exact g1,g2,hoth b' (fun e=>by subst e;exact absurd (hd.defs.2.1.old _ hb) (AE.2 h0))⟩),hd.defs.2.1.old⟩,trivial⟩,q0d k2 hd.tmps⟩,k2,⟨h0,by show _<w'.heap.size;rw [hsz];exact h1,h2,h3,fun c T fz hc=> ?_⟩,fun b' e ⟨g0,g1,g2,g3,g4⟩=>⟨g0,by show _<w'.heap.size;rw [hsz];exact g1,g2,g3,g4.keep (hoth b' e)⟩⟩
 simp only at hc;rw [hnew] at hc;cases hc;simp

theorem z3P{o:Oper}{T:TypeId}{d e b m:Nat}{zs us:List Value}{w:World}(hop:o.op= .store T (.tmp d) (.tmp e))(hs:(P.info? T).map (·.size)=some m)(hp:a.tmps[d]?=some (.pointer (some ⟨b,0,none⟩)))(hv:a.tmps[e]?=some (.agg us.toArray))
 (hcell:w.heap[b]?=some (.cells zs.toArray T (0,0)))(hz:zs.length=m)(hl:us.length=m)(hone:∀v∈us,v.oneCell'=true):(execOp a.eval o).run P w= .ok .skip (w.setCells b 0 us):=by
 have e1:=q6u hp;have e2:=q6u hv;have hrun:(storeCells ⟨b,0,none⟩ us 0).run P w= .ok () (w.setCells b (0+0) us):=run_storeCells_cells b 0 _ 0 w
  (fun j hj=>by rw [q0g hcell];rw [Ab (by omega)];rfl)
  (fun j hj=>by simp [World.frozen?,hcell]) hone
 simp [execOp,hop,e1,e2,Instr.storeAt,Instr.sureAddr,Result.andThen,storeVar,q0i hs,Value.cells,hl,hrun]
end Go.Sx
