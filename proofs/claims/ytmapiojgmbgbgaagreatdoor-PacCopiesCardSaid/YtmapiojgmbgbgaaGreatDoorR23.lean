/- Authorisation data: what is valid, their encoding; to whom they belong, who is a member. -/
import Derived.Test.YtmapiojgmbgbgaaGreatDoorR22
set_option linter.all false
namespace Go.Proofs.YtmapiojgmbgbgaaGreatDoor
open Go Go.Sx Go.Proofs
set_option maxRecDepth 100000
set_option maxHeartbeats 4000000
abbrev PacT:Ty:=.prod PrinT (.prod I64 (.prod I64 (.prod (.slice I64) (.slice PrinT))))
abbrev Pac:=PacT.den
def vNum(v:Int):Bool:=mIn 0 2147483647 v
theorem j0l(v:Int):PC Tryz.prog 65 [rI v] (rB (vNum v)):=by
 refine q0w rfl rfl ?_;refine rQ fi65 ?_
 grind [vNum,mIn]
theorem q6Z(v lo hi:Int):PC Tryz.prog 176 [rI v,rI lo,rI hi] (rB (mIn lo hi v)):=by
 refine q0w rfl rfl ?_;refine rQ fi176 ?_
 grind [mIn]
theorem z0h(v:Int):PC Tryz.prog 174 [rI v] (rB (vTime v)):=by
 refine q0w rfl rfl ?_;refine rQ fi174 ?_;refine cQ (q6Z _ _ _) ?_;rfl
theorem j4e(l:List Bool)(hl:l.length≤1125899906842624):PC Tryz.prog 173 [.isl .bool l] (rB (l.all id)):=by
 refine q0w rfl rfl ?_;refine rQ fi173 ?_;refine cQ (q6L l hl) ?_;simp
theorem j1e(v:Int):PC Tryz.prog 175 [rI v] (rB (mIn 0 86400 v)):=by
 refine q0w rfl rfl ?_;refine rQ fi175 ?_;refine cQ (q6Z _ _ _) ?_;trivial
def witB(a b s:Int):Bool:=vTime a&& (vTime b&& (mIn 0 86400 s&& mIn (-s) s (a-b)))
theorem j3k(a b s:Int):PC Tryz.prog 120 [rI a,rI b,rI s] (rB (witB a b s)):=by
 have hm:=j4e [vTime a,vTime b,mIn 0 86400 s] (by simp)
 have hw:witB a b s=(([vTime a,vTime b,mIn 0 86400 s].all id) && mIn (-s) s (a-b)):=by simp [witB,Bool.and_assoc]
 have hr:[vTime a,vTime b,mIn 0 86400 s].all id=true→IntKind.i64.wrap (a-b)=a-b∧IntKind.i64.wrap (-s)= -s:=fun h=>by
  simp only [Bt,Cy,id,BI,Ai,vTime,mIn,decide_eq_true_eq] at h;exact ⟨wrapi (by omega),wrapi (by omega)⟩
 rw [hw];refine q0w rfl rfl ?_;refine rQ fi120 ?_;refine cQ (z0h _) ?_;refine cQ (z0h _) ?_;refine cQ (j1e _) ?_;refine q0z 0 ?_;with_reducible refine sxE ?_
 refine q0a hm ?_;generalize [vTime a,vTime b,mIn 0 86400 s].all id=q at*;cases q with
 |false=>
  refine gQ ?_;trivial
 |true=>
  obtain ⟨h1,h2⟩:=hr rfl;rw [show -s=0-s by omega] at h2⊢
  refine gy2 h1 h2 ?_;refine cQ (q6Z _ _ _) ?_;trivial
theorem z3n(t:Int):PC Tryz.prog 64 [rI t] (rB (vTime t)):=by
 have h:=j3k t t 0;have e:witB t t 0=vTime t:=by
  unfold witB;rw [Int.sub_self];cases vTime t<;>rfl
 rw [e] at h;refine q0w rfl rfl ?_;refine rQ fi64 ?_;refine cQ h ?_;trivial
def grpAt(l:List Int)(j:Nat):Bool:=vNum (l.getD j (Ty.dflt I64)) && (decide (j=0) ||decide (l.getD (j-1) (Ty.dflt I64) <l.getD j (Ty.dflt I64)))
def vPac(p:Pac):Bool:=vPrin p.1&& (vTime p.2.1&& (vNum p.2.2.1&& (decide ((p.2.2.2.1.length:Int)≤64) && (decide ((p.2.2.2.2.length:Int)≤16) && (allN p.2.2.2.1.length (grpAt p.2.2.2.1) && p.2.2.2.2.all vPrin)))))
theorem j4k(p:Prin)(hp:PrinT.ok p):PC Tryz.prog 67 [.agg (PrinT.cells p)] (rB (!vPrin p)):=by
 refine q0w rfl rfl ?_;refine rQ fi67 ?_;refine cQ (q4Z p hp) ?_;trivial
theorem j3g(l:List Prin)(hl:l.length≤1125899906842624)(ho:∀p∈l,PrinT.ok p):PC Tryz.prog 121 [.isl PrinT l,.fn 67 [] []] (rI (match firstN l.length (fun j=> !vPrin (l.getD j PrinT.dflt)) with|some i=>(i:Int) |none=> -1)):=by
 refine q0w rfl rfl ?_;refine rQ fi121 ?_;refine q0X (fun i=>[(8,.raw (.int .i64 ((i:Nat):Int)))]) (l.length) (fun j=>(fun j=>vPrin (l.getD j PrinT.dflt)) j=true) (by first|decide|simp) (fun i=>rfl) ?_ fun i hi hall=> ?_
 · (with_reducible refine sxE ?_<;>try exact True.intro)
   all_goals (try rfl)
 have hwr:=wsx i (by omega)
 refine gQ ?_;have bad:i< (l.length)→(fun j=>vPrin (l.getD j PrinT.dflt)) i=false→allN (l.length) (fun j=>vPrin (l.getD j PrinT.dflt))=false:=fun hlt hv=>q0y hlt hv;have fin:¬i< (l.length)→allN (l.length) (fun j=>vPrin (l.getD j PrinT.dflt))=true:=fun h=>q0B fun j hj=>hall j (by omega)
 try dsimp only at bad fin hall
 refine ⟨fun hlt=>⟨⟨by omega,hlt⟩,q0a (j4k _ (ho _ (q1a hlt))) ?_⟩,fun hge=> ?_⟩
 · refine gQ ?_;refine ⟨fun h=> ?_,fun h=> ?_⟩
   · rw [q4A hlt (by simpa using h) (fun j hj=>by simpa using hall j hj)]
   refine ⟨hlt,q0Z hall (by simpa using h),⟨[],by simp⟩,?_⟩
   with_reducible refine sx1 hwr ?_;trivial
 rw [q6J (fun j hj=>by simpa using hall j (by omega))]
theorem j2I(l:List Prin)(hl:l.length≤1125899906842624)(ho:∀p∈l,PrinT.ok p):PC Tryz.prog 66 [.isl PrinT l,.fn 67 [] []] (rB (!l.all vPrin)):=by
 refine q0w rfl rfl ?_;refine rQ fi66 ?_;refine q0a (j3g l hl ho) ?_;cases hf:firstN l.length (fun j=> !vPrin (l.getD j PrinT.dflt)) with
 |none=>
  have ha:l.all vPrin=true:=by
   rw [A3];intro x hx;obtain ⟨j,hj,rfl⟩:=AX hx;have:=List.find?_eq_none.1 hf j (B7.2 hj);rw [q6D hj] at this;simpa using this
  rw [ha];refine gQ ?_;trivial
 |some i=>
  have hs:=q3m hf;have ha:l.all vPrin=false:=by
   rw [List.all_eq_false];refine ⟨_,q1a (d:=PrinT.dflt) hs.1,?_⟩;simpa using hs.2.1
  have hi:((0:Int)≤(i:Int))=True:=eq_true (by omega)
  rw [ha];refine gy1 hi ?_;trivial
theorem q3T(p:Pac)(ho:PacT.ok p):PC Tryz.prog 20 [.agg (PacT.cells p)] (rB (vPac p)):=by
 obtain ⟨c,a,u,g,w⟩:=p;obtain ⟨o1,_,_,o4,o5⟩:=ho;have hd:vPac (c,a,u,g,w)=(vPrin c&& (vTime a&& (vNum u&& (decide ((g.length:Int)≤64) && (decide ((w.length:Int)≤16) && (allN g.length (grpAt g) && w.all vPrin)))))):=rfl;rw [hd];clear hd;refine q0w rfl rfl ?_;refine rQ fi20 ?_;refine cQ (q4Z c o1) ?_;refine ⟨fun h1=> ?_,fun h1=> ?_⟩
 rotate_left
 · first| (simp only [AJ,h1,AW,BN];done) |simp [AJ,h1]
 refine cQ (z3n a) ?_;refine ⟨fun h2=> ?_,fun h2=> ?_⟩
 rotate_left
 · first| (simp only [AJ,h2,AW,BN];done) |simp [AJ,h2]
 refine cQ (j0l u) ?_;refine ⟨fun h3=> ?_,fun h3=> ?_⟩
 rotate_left
 · first| (simp only [AJ,h3,AW,BN];done) |simp [AJ,h3]
 refine ⟨fun h=>⟨fun h'=> ?_,fun h'=> ?_⟩,fun h=> ?_⟩
 · rw [decide_eq_false (show ¬(List.length w:Int)≤16 by omega)];simp
 rotate_left
 · rw [decide_eq_false (show ¬(List.length g:Int)≤64 by omega)];simp
 rw [show decide ((List.length g:Int)≤64)=true from decide_eq_true (by omega),show decide ((List.length w:Int)≤16)=true from decide_eq_true (by omega),h1,h2,h3]
 simp only [AJ];refine q0X (fun i=>[(36,.raw (.int .i64 ((i:Nat):Int)))]) (List.length g) (fun j=>(grpAt g) j=true) (by first|decide|simp) (fun i=>rfl) ?_ fun i hi hall=> ?_
 · (with_reducible refine sxE ?_<;>try exact True.intro)
   all_goals (try rfl)
 have hwr:=wsx i (by omega)
 refine gQ ?_;have bad:i< (List.length g)→(grpAt g) i=false→allN (List.length g) (grpAt g)=false:=fun hlt hv=>q0y hlt hv;have fin:¬i< (List.length g)→allN (List.length g) (grpAt g)=true:=fun h=>q0B fun j hj=>hall j (by omega)
 try dsimp only at bad fin hall
 have hgd:grpAt g i=(vNum (g.getD i (Ty.dflt I64)) && (decide (i=0) ||decide (g.getD (i-1) (Ty.dflt I64) <g.getD i (Ty.dflt I64)))):=rfl
 refine ⟨fun hlt=>⟨⟨by omega,hlt⟩,q0a (j0l _) ?_⟩,fun hge=>q0a (j2I w o5.1 o5.2) ?_⟩
 · cases hn:vNum (g.getD i (Ty.dflt I64)) with
   |false=>
    refine gQ ?_;rw [bad hlt (by rw [hgd,hn,AW]),AW]
   |true=>
    by_cases h0:i=0
    · have f0:((0:Int) < (i:Int))=False:=eq_false (by omega)
      refine gy1 f0 ?_;refine ⟨hlt,q0Z hall (by rw [hgd,hn,decide_eq_true h0];rfl),⟨[],rfl⟩,?_⟩
      with_reducible refine sx1 hwr ?_;trivial
    have f0:((0:Int) < (i:Int))=True:=eq_true (by omega)
    have f1:IntKind.i64.wrap ((i:Int) -1)=((i-1:Nat):Int):=by rw [wrapi (by omega)];omega
    refine gy2 f0 f1 ?_;refine ⟨⟨by omega,by omega⟩,fun hle=> ?_,fun hle=> ?_⟩
    · rw [bad hlt (by rw [hgd,hn,decide_eq_false h0,decide_eq_false (show ¬g.getD (i-1) (Ty.dflt I64) <g.getD i (Ty.dflt I64) from Int.not_lt.2 hle)];rfl),AW]
    refine ⟨hlt,q0Z hall (by rw [hgd,hn,decide_eq_true (show g.getD (i-1) (Ty.dflt I64) <g.getD i (Ty.dflt I64) from Int.not_le.1 hle),Ca,AJ]),⟨[],rfl⟩,?_⟩
    with_reducible refine sx1 hwr ?_;trivial
 rw [fin hge,AJ];refine gQ ?_;exact Bool.not_not _
theorem z6l(p:Prin)(hp:PrinT.ok p):PC Tryz.prog 91 [.agg (PrinT.cells p)] (.isl .u8 (prinE p)):=by
 unfold prinE;refine q0q rfl rfl ?_;refine rQ fi91 ?_;refine cQ (z6A p hp) ?_;trivial
theorem z4H(n:Int)(l:List (PrinT).den)(g:Nat)(w:(PrinT).den→List UInt8)(hl:l.length≤1048576)(hone:∀x∈l,PC Tryz.prog g [.agg ((PrinT).cells x)] (.isl .u8 (w x))):
 PC Tryz.prog 95 [rI n,.isl (PrinT) l,.fn g [] []] (.isl .u8 (wrapS 160 n (listS (t:=PrinT) w l))):=by
 refine q0q rfl rfl ?_;refine rQ fi95 ?_;refine ⟨fun h0=> ?_,fun h0=> ?_⟩
 · unfold listS;rw [if_pos (by omega)];simp [wrapS]
 refine q3G 7 (.slice .u8) (mapN (t:=PrinT) w l) (fun i=>[(15,rI i)]) l.length (fun _=>True) rfl (by simp) (by simp [mapN]) rfl (fun i=>rfl) ?_ fun i hi _=> ?_
 · with_reducible refine sxE ?_;trivial
 have hwr:=wsx i (by omega)
 have hln:=z2Y (w:=w) hi;refine gQ ?_;refine ⟨fun hlt=>⟨⟨by omega,hlt⟩,q0a (hone _ (q1a (d:=(PrinT).dflt) hlt)) ?_⟩,fun hge=> ?_⟩
 · refine gQ ?_;have hst:=z1g (t:=PrinT) (w:=w) hlt;refine ⟨⟨by omega,by omega⟩,q2g [_,_,_] [] hlt trivial (by rw [hst];rfl) ?_⟩
   with_reducible refine sx3 hwr hst ?_;trivial
 obtain rfl:i=l.length:=by omega
 refine q0z 0 ?_;with_reducible refine sxE ?_
 refine ⟨by omega,Af _,?_⟩
 rw [Ah (Af _)];refine cQ (q1T (mapN (t:=PrinT) w l l.length) (by omega)) ?_
 refine cQ (q1J _ _) ?_;unfold listS;rw [if_neg (by omega)]
theorem z7n(n:Int)(l:List (I64).den)(g:Nat)(w:(I64).den→List UInt8)(hl:l.length≤1048576)(hone:∀x∈l,PC Tryz.prog g [rI x] (.isl .u8 (w x))):
 PC Tryz.prog 94 [rI n,.isl (I64) l,.fn g [] []] (.isl .u8 (wrapS 160 n (listS (t:=I64) w l))):=by
 refine q0q rfl rfl ?_;refine rQ fi94 ?_;refine ⟨fun h0=> ?_,fun h0=> ?_⟩
 · unfold listS;rw [if_pos (by omega)];simp [wrapS]
 refine q3G 7 (.slice .u8) (mapN (t:=I64) w l) (fun i=>[(15,rI i)]) l.length (fun _=>True) rfl (by simp) (by simp [mapN]) rfl (fun i=>rfl) ?_ fun i hi _=> ?_
 · with_reducible refine sxE ?_;trivial
 have hwr:=wsx i (by omega)
 have hln:=z2Y (w:=w) hi;refine gQ ?_;refine ⟨fun hlt=>⟨⟨by omega,hlt⟩,q0a (hone _ (q1a (d:=(I64).dflt) hlt)) ?_⟩,fun hge=> ?_⟩
 · refine gQ ?_;have hst:=z1g (t:=I64) (w:=w) hlt;refine ⟨⟨by omega,by omega⟩,q2g [_,_] [] hlt trivial (by rw [hst];rfl) ?_⟩
   with_reducible refine sx3 hwr hst ?_;trivial
 obtain rfl:i=l.length:=by omega
 refine q0z 0 ?_;with_reducible refine sxE ?_
 refine ⟨by omega,Af _,?_⟩
 rw [Ah (Af _)];refine cQ (q1T (mapN (t:=I64) w l l.length) (by omega)) ?_
 refine cQ (q1J _ _) ?_;unfold listS;rw [if_neg (by omega)]
def pacS(p:Pac):List UInt8:=elemS 48 [wrapS 160 0 (prinE p.1),wrapS 160 1 (timeS p.2.1),wrapS 160 2 (intS p.2.2.1),wrapS 160 3 (listS (t:=I64) intS p.2.2.2.1),wrapS 160 4 (listS (t:=PrinT) prinE p.2.2.2.2)]
theorem j0e{p:Pac}(h:vPac p=true):p.2.2.2.1.length≤64∧p.2.2.2.2.length≤16:=by
 simp only [vPac,Ai,decide_eq_true_eq] at h;omega
theorem q3U(p:Pac)(ho:PacT.ok p)(hv:vPac p=true):PC Tryz.prog 45 [.agg (PacT.cells p)] (.isl .u8 (pacS p)):=by
 obtain ⟨l1,l2⟩:=j0e hv;clear hv;obtain ⟨c,a,u,g,w⟩:=p;obtain ⟨o1,_,_,o4,o5⟩:=ho;dsimp only at l1 l2;refine q0q rfl rfl ?_;refine rQ fi45 ?_;refine cR (z6l c o1) ?_;refine cR (q1J _ _) ?_;refine cR (j3Q _) ?_;refine cR (q1J _ _) ?_;refine cR (q3J _) ?_;refine cR (q1J _ _) ?_;refine cR (z7n 3 g _ intS (by omega) fun x _=>q3J x) ?_
 refine cR (z4H 4 w _ prinE (by omega) fun x hx=>z6l x (o5.2 x hx)) ?_
 refine q0I 1 (by decide) ?_
 with_reducible refine sxE ?_
 refine cR (q1T _ (by simp)) ?_
 rfl
theorem z8W(p:Pac)(ho:PacT.ok p):PC Tryz.prog 19 [.agg (PacT.cells p)] (.tup [.isl .u8 (if vPac p then pacS p else []),rI (if vPac p then 0 else 2)]):=by
 have h1:=q3T p ho;have h2:=q3U p ho;generalize vPac p=v at*;generalize pacS p=w at*;obtain ⟨c,a,u,g,l⟩:=p;refine q0q rfl rfl ?_;refine rQ fi19 ?_;refine q0a h1 ?_;cases v with
 |false=>
  refine gQ ?_;trivial
 |true=>
  refine gQ ?_;refine cQ (h2 rfl) ?_;trivial
def bindS(p:Pac)(c:Prin)(t:Int):Int:=if vPac p&& (vPrin c&& vTime t) then (if p.1=c∧p.2.1=t then 0 else 232) else 2
theorem z0A(p:Pac)(c:Prin)(t:Int)(ho:PacT.ok p)(hc:PrinT.ok c):PC Tryz.prog 27 [.agg (PacT.cells p),.agg (PrinT.cells c),rI t] (rI (bindS p c t)):=by
 have h1:=q3T p ho;have h2:=q4Z c hc;have h3:=q8O p.1 c ho.1;unfold bindS;generalize vPac p=v at*;generalize vPrin c=v2 at*;generalize hv3:vTime t=v3 at*;obtain ⟨⟨c1,c2⟩,a,u,g,l⟩:=p;obtain ⟨d1,d2⟩:=c;dsimp only at h3;refine q0w rfl rfl ?_;refine rQ fi27 ?_;refine q0a h1 ?_;cases v with
 |false=>
  refine gQ ?_;trivial
 |true=>
  refine gQ ?_;refine q0a h2 ?_;cases v2 with
  |false=>
   refine gQ ?_;trivial
  |true=>
   refine gQ ?_;refine q0a (hv3▸z3n t) ?_;cases v3 with
   |false=>
    refine gQ ?_;trivial
   |true=>
    refine gQ ?_;refine cQ h3 ?_;exact ⟨fun h=>⟨fun h'=>by rw [if_neg (fun x=>h' x.2)],fun h'=>by rw [if_pos ⟨h,h'⟩]⟩,fun h=>by rw [if_neg (fun x=>h x.1)]⟩
theorem j0V(x v:Int):PC Tryz.prog 82 [rI x,.iptr I64 v 0] (rB (decide (x=v))):=by
 refine q0w rfl rfl ?_;refine rQ fi82 ?_;trivial
theorem j2W(l:List Int)(v:Int)(hl:l.length≤1125899906842624):PC Tryz.prog 142 [.isl I64 l,.fn 82 [] [.iptr I64 v 0]] (rI (match firstN l.length (fun j=>decide (l.getD j (Ty.dflt I64)=v)) with|some i=>(i:Int) |none=> -1)):=by
 refine q0w rfl rfl ?_;refine rQ fi142 ?_;refine q0X (fun i=>[(8,.raw (.int .i64 ((i:Nat):Int)))]) (l.length) (fun j=>(fun j=> !decide (l.getD j (Ty.dflt I64)=v)) j=true) (by first|decide|simp) (fun i=>rfl) ?_ fun i hi hall=> ?_
 · (with_reducible refine sxE ?_<;>try exact True.intro)
   all_goals (try rfl)
 have hwr:=wsx i (by omega)
 refine gQ ?_;have bad:i< (l.length)→(fun j=> !decide (l.getD j (Ty.dflt I64)=v)) i=false→allN (l.length) (fun j=> !decide (l.getD j (Ty.dflt I64)=v))=false:=fun hlt hv=>q0y hlt hv;have fin:¬i< (l.length)→allN (l.length) (fun j=> !decide (l.getD j (Ty.dflt I64)=v))=true:=fun h=>q0B fun j hj=>hall j (by omega)
 try dsimp only at bad fin hall
 have hall':∀j,j<i→¬l.getD j (Ty.dflt I64)=v:=fun j hj=>by simpa using hall j hj
 refine ⟨fun hlt=>⟨⟨by omega,hlt⟩,q0a (j0V _ _) ?_⟩,fun hge=> ?_⟩
 · refine gQ ?_;refine ⟨fun h=> ?_,fun h=> ?_⟩
   · rw [q4A hlt (by simpa using h) (fun j hj=>by simpa using hall j hj)]
   refine ⟨hlt,q0Z hall' (by simpa using h),⟨[],by simp⟩,?_⟩
   with_reducible refine sx1 hwr ?_;trivial
 rw [q6J (fun j hj=>by simpa using hall j (by omega))]
theorem z8A(l:List Int)(v:Int)(hl:l.length≤1125899906842624):PC Tryz.prog 81 [.isl I64 l,.fn 82 [] [.iptr I64 v 0]] (rB (decide (v∈l))):=by
 refine q0w rfl rfl ?_;refine rQ fi81 ?_;refine q0a (j2W l v hl) ?_;cases hf:firstN l.length (fun j=>decide (l.getD j (Ty.dflt I64)=v)) with
 |none=>
  have ha:¬v∈l:=by
   intro hx;obtain ⟨j,hj,e⟩:=AX hx;have:=List.find?_eq_none.1 hf j (B7.2 hj);rw [q6D hj] at this;simp [e] at this
  rw [decide_eq_false ha];refine gQ ?_;trivial
 |some i=>
  have hs:=q3m hf;have ha:v∈l:=by
   have h2:=of_decide_eq_true hs.2.1;rw [←h2];exact q1a hs.1
  have hi:((0:Int)≤(i:Int))=True:=eq_true (by omega)
  rw [decide_eq_true ha];refine gy1 hi ?_;trivial
theorem q9s(p:Pac)(v:Int)(ho:PacT.ok p):PC Tryz.prog 34 [.agg (PacT.cells p),rI v] (rB (decide (v∈p.2.2.2.1))):=by
 obtain ⟨c,a,u,g,l⟩:=p;have h:=z8A g v ho.2.2.2.1.1;refine q0w rfl rfl ?_;refine q4r fi34 ?_;refine uQ 4 _ ?_;with_reducible refine sxE ?_
 refine q3I 3 1 (ty:=I64) (x:=v) rfl trivial rfl rfl ?_;refine gQ ?_;refine cQ h ?_;trivial
@[go_sem] abbrev wrongV:SV:=.iface 142 (.agg [rI 6])
theorem q3A:PC Tryz.prog 103 [.raw (.bool true)] (.tup []):=by
 refine q0w rfl rfl ?_;refine rQ fi103 ?_;trivial
theorem z6s:PE Tryz.prog 103 [.raw (.bool false)] [] (.pan wrongV) []:=by
 refine q0b (by simp) ?_
 refine rQ fi103 ?_;trivial
theorem q0m{AQ:Ex→List SV→List SObj→Prop}{x:Bool}{d:Option Tmp}{m:IM}(h1:x=true→SoundI Tryz.prog AQ {m with tmps:=putT m.tmps d (.tup [])})(h2:x=false→AQ (.pan wrongV) m.tmps m.heap):
 CallI Tryz.prog AQ 103 [.raw (.bool x)] d m:=by
 cases x with
 |true=>exact q0a q3A (h1 rfl)
 |false=>
  refine q0H [] z6s rfl (by decide) trivial rfl rfl ?_
  have:mgA (sig [] m.heap.length) [] [] m.heap=m.heap:=by simp [mgA]
  rw [this];exact h2 rfl
theorem q8H(v:Value):PC Tryz.prog 130 [.raw v,rI 0] (.raw v):=by
 refine q0w rfl rfl ?_;refine rQ fi130 ?_;refine cQ q3A ?_;trivial
theorem q4y(v:Value)(e:Nat)(he:e≠0):PE Tryz.prog 130 [.raw v,rI e] [] (.pan wrongV) []:=by
 refine q0b (by simp) ?_
 refine rQ fi130 ?_;refine q0m (fun h=>absurd h (by simp;omega)) fun _=> ?_
 with_reducible refine sxE ?_;trivial
theorem q9l(b:List UInt8)(n:Nat):PE Tryz.prog 162 [.ptr 0 0,rI 0] [rdr b n] (.ret (.ptr 0 0)) [rdr b n]:=by
 refine q0b (by simp) ?_
 refine rQ fi162 ?_;refine cQ q3A ?_;trivial
theorem z1D(e:Nat)(he:e≠0):PE Tryz.prog 162 [.raw (.pointer none),rI e] [] (.pan wrongV) []:=by
 refine q0b (by simp) ?_
 refine rQ fi162 ?_;refine q0m (fun h=>absurd h (by simp;omega)) fun _=> ?_
 with_reducible refine sxE ?_;trivial
theorem z5C(b:List UInt8)(n:Nat)(hn:n=b.length):PE Tryz.prog 102 [.agg [.ptr 0 0]] [rdr b n] (.ret (.tup [])) [rdr b n]:=by
 have he:=j4a b n (by omega)
 rw [if_neg (by omega)] at he
 refine q0b (by simp) ?_
 refine rQ fi102 ?_;refine eQ [0] (he) ?_;refine cQ q3A ?_;trivial
theorem z6T(b:List UInt8)(n:Nat)(hn:n<b.length):PE Tryz.prog 102 [.agg [.ptr 0 0]] [rdr b n] (.pan wrongV) [.dead]:=by
 have he:=j4a b n (by omega)
 rw [if_pos hn] at he;refine q0b (by simp) ?_
 refine rQ fi102 ?_;refine eQ [0] (he) ?_;refine q0m (fun h=>absurd h (by simp)) fun _=> ?_
 with_reducible refine sxE ?_;trivial
def Eff(P:Program){α:Type}(f:FuncId)(args:List SV)(b:List UInt8)(n:Nat)(E:List SObj)(res:α→SV)(upd:α→List SObj):Except Nat (α×Nat)→Prop
 |.ok (v,k)=>PE P f args (rdr b n :: E) (.ret (res v)) (rdr b (n+k) :: upd v)
 |.error _=>PE P f args (rdr b n :: E) (.pan wrongV) (.dead :: E.map fun _=>.dead)
theorem q1P{P:Program}{α:Type}{f:FuncId}{args:List SV}{b:List UInt8}{n:Nat}{E:List SObj}{res:α→SV}{upd:α→List SObj}{x:Except Nat (α×Nat)}{v:α}{k:Nat}(h:Eff P f args b n E res upd x)(hx:x= .ok (v,k)):PE P f args (rdr b n :: E) (.ret (res v)) (rdr b (n+k) :: upd v):=by rw [hx] at h;exact h
theorem q2e{P:Program}{α:Type}{f:FuncId}{args:List SV}{b:List UInt8}{n:Nat}{E:List SObj}{res:α→SV}{upd:α→List SObj}{x:Except Nat (α×Nat)}{e:Nat}(h:Eff P f args b n E res upd x)(hx:x= .error e):PE P f args (rdr b n :: E) (.pan wrongV) (.dead :: E.map fun _=>.dead):=by rw [hx] at h;exact h
theorem sequence1{α:Type}(g:Nat)(b:List UInt8)(n:Nat)(hn:n≤b.length)(hb:b.length≤1099511627776)(T:TypeId)(cs:List SV)(hc:Cln cs)(p:PR α)(hp:FitsP p)(upd:α→List SV)(hu:∀v,Cln (upd v))
 (hg:Eff Tryz.prog g (.agg [.ptr 0 0] :: [.ptr 1 0]) (takeC (b.drop n)) 0 [.cells T cs] (fun _=>.tup []) (fun v=>[.cells T (upd v)]) (p (takeC (b.drop n)))):
 Eff Tryz.prog 105 [.agg [.ptr 0 0],.fn g [] [.ptr 1 0]] b n [.cells T cs] (fun _=>.tup []) (fun v=>[.cells T (upd v)]) (inP 48 p (b.drop n)):=by
 have w1:=z1h hc;have w2:=And.intro w1 (z2s hu);rcases q3C (tag:=48) (p:=p) (r:=b.drop n) with ⟨h1,e⟩ | ⟨h1,e,h2,e'⟩ | ⟨h1,v,m,h2,h3,e⟩ | ⟨h1,v,m,h2,h3,e⟩
 · rw [e];have hs:=q9Q b n hn hb h1;generalize takeE 48 (b.drop n)=ee at*;refine q0b (by simp) ?_
   refine rQ fi105 ?_;refine effC mixed [0] (hs) w1 ?_;refine effD [] (z1D ee h1) w1 ?_;trivial
 · rw [e'];have hs:=q5m b n hn hb h1;have hg':=q2e hg h2;generalize takeC (b.drop n)=c at*;refine q0b (by simp) ?_
   refine rQ fi105 ?_;refine effC mixed [0] (hs) w1 ?_;refine effC mixed [3] (q9l c 0) w1 ?_;refine effD [3,1] (hg') w1 ?_;trivial
 · rw [e];have hs:=q5m b n hn hb h1;have hg':=q1P hg h2;generalize takeC (b.drop n)=c at*;rw [Ac] at hg';refine q0b (by simp) ?_
   refine rQ fi105 ?_;refine effC mixed [0] (hs) w1 ?_;refine effC mixed [3] (q9l c 0) w1 ?_;refine effC mixed [3,1] (hg') w2 ?_;refine effD [3] (z6T c m h3) w2 ?_;trivial
 rw [e];have hs:=q5m b n hn hb h1;have hg':=q1P hg h2;have hm:=hp _ _ _ h2;generalize takeC (b.drop n)=c at*;rw [Ac] at hg';refine q0b (by simp) ?_
 refine rQ fi105 ?_;refine effC mixed [0] (hs) w1 ?_;refine effC mixed [3] (q9l c 0) w1 ?_;refine effC mixed [3,1] (hg') w2 ?_;refine effC mixed [3] (z5C c m (by omega)) w2 ?_;trivial
theorem z7f(g:Nat)(i:Nat)(hi:i≤30)(b:List UInt8)(n:Nat)(hn:n≤b.length)(T:TypeId)(cs:List SV)(hc:Cln cs)(h:nextB i (b.drop n)=false):
 PE Tryz.prog 134 [.agg [.ptr 0 0],rI i,.fn g [] [.ptr 1 0]] (rdr b n :: [.cells T cs]) (.ret (rB false)) (rdr b n :: [.cells T cs]):=by
 have w1:=z1h hc;have hs:=q5O i hi b n hn h;refine q0b (by simp) ?_
 refine rQ fi134 ?_;refine effC mixed [0] (hs) w1 ?_;refine q0m (fun _=> ?_) fun h=>absurd h (by decide)
 refine gy1 w1 ?_;trivial
theorem z0J{α:Type}(g:Nat)(i:Nat)(hi:i≤30)(b:List UInt8)(n:Nat)(hn:n≤b.length)(hb:b.length≤1099511627776)(T:TypeId)(cs:List SV)(hc:Cln cs)(p:PR α)(hp:FitsP p)(upd:α→List SV)(hu:∀v,Cln (upd v))
 (hg:Eff Tryz.prog g (.agg [.ptr 0 0] :: [.ptr 1 0]) (takeC (b.drop n)) 0 [.cells T cs] (fun _=>.tup []) (fun v=>[.cells T (upd v)]) (p (takeC (b.drop n))))(h:nextB i (b.drop n)=true):
 Eff Tryz.prog 134 [.agg [.ptr 0 0],rI i,.fn g [] [.ptr 1 0]] b n [.cells T cs] (fun _=>rB true) (fun v=>[.cells T (upd v)]) (inP (tagB i) p (b.drop n)):=by
 have w1:=z1h hc;have w2:=And.intro w1 (z2s hu);rcases q3C (tag:=tagB i) (p:=p) (r:=b.drop n) with ⟨h1,e⟩ | ⟨h1,e,h2,e'⟩ | ⟨h1,v,m,h2,h3,e⟩ | ⟨h1,v,m,h2,h3,e⟩
 · rw [e];have hs:=q7g i hi b n hn hb h h1;generalize takeE (tagB i) (b.drop n)=ee at*;refine q0b (by simp) ?_
   refine rQ fi134 ?_;refine effC mixed [0] (hs) w1 ?_;refine q0m (fun h=>absurd h (by simp;omega)) fun _=> ?_
   with_reducible refine sxE ?_;trivial
 · rw [e'];have hs:=q4i i hi b n hn hb h h1;have hg':=q2e hg h2;generalize takeC (b.drop n)=c at*;refine q0b (by simp) ?_
   refine rQ fi134 ?_;refine effC mixed [0] (hs) w1 ?_;refine q0m (fun _=> ?_) fun h=>absurd h (by decide)
   refine gQ ?_;refine effD [3,1] (hg') w1 ?_;trivial
 · rw [e];have hs:=q4i i hi b n hn hb h h1;have hg':=q1P hg h2;generalize takeC (b.drop n)=c at*;rw [Ac] at hg';refine q0b (by simp) ?_
   refine rQ fi134 ?_;refine effC mixed [0] (hs) w1 ?_;refine q0m (fun _=> ?_) fun h=>absurd h (by decide)
   refine gQ ?_;refine effC mixed [3,1] (hg') w2 ?_;refine effD [3] (z6T c m h3) w2 ?_;trivial
 rw [e];have hs:=q4i i hi b n hn hb h h1;have hg':=q1P hg h2;have hm:=hp _ _ _ h2;generalize takeC (b.drop n)=c at*;rw [Ac] at hg';refine q0b (by simp) ?_
 refine rQ fi134 ?_;refine effC mixed [0] (hs) w1 ?_;refine q0m (fun _=> ?_) fun h=>absurd h (by decide)
 refine gQ ?_;refine effC mixed [3,1] (hg') w2 ?_;refine effC mixed [3] (z5C c m (by omega)) w2 ?_;trivial
theorem need1{α:Type}(g:Nat)(i:Nat)(hi:i≤30)(b:List UInt8)(n:Nat)(hn:n≤b.length)(hb:b.length≤1099511627776)(T:TypeId)(cs:List SV)(hc:Cln cs)(p:PR α)(hp:FitsP p)(upd:α→List SV)(hu:∀v,Cln (upd v))
 (hg:Eff Tryz.prog g (.agg [.ptr 0 0] :: [.ptr 1 0]) (takeC (b.drop n)) 0 [.cells T cs] (fun _=>.tup []) (fun v=>[.cells T (upd v)]) (p (takeC (b.drop n)))):
 Eff Tryz.prog 107 [.agg [.ptr 0 0],rI i,.fn g [] [.ptr 1 0]] b n [.cells T cs] (fun _=>.tup []) (fun v=>[.cells T (upd v)]) (needP i p (b.drop n)):=by
 have w1:=z1h hc;have w2:=And.intro w1 (z2s hu);cases h:nextB i (b.drop n) with
 |false=>
  have hm:=z7f g i hi b n hn T cs hc h;have:∃e,needP i p (b.drop n)= .error e:=⟨_,by unfold needP;rw [h];rfl⟩
  obtain ⟨e,he⟩:=this;rw [he];refine q0b (by simp) ?_
  refine rQ fi107 ?_;refine effC mixed [0,1] (hm) w1 ?_;refine q0m (fun h=>absurd h (by decide)) fun _=> ?_
  with_reducible refine sxE ?_;trivial
 |true=>
  have hm:=z0J g i hi b n hn hb T cs hc p hp upd hu hg h;have he:needP i p (b.drop n)=inP (tagB i) p (b.drop n):=by unfold needP;rw [h];rfl
  rw [he];cases hx:inP (tagB i) p (b.drop n) with
  |error e=>
   have hm':=q2e hm hx;refine q0b (by simp) ?_
   refine rQ fi107 ?_;refine effD [0,1] (hm') w1 ?_;trivial
  |ok x=>
   obtain ⟨v,k⟩:=x;have hm':=q1P hm hx;refine q0b (by simp) ?_
   refine rQ fi107 ?_;refine effC mixed [0,1] (hm') w2 ?_;refine q0m (fun _=> ?_) fun h=>absurd h (by decide)
   refine gy1 w2 ?_;trivial
def effO{α:Type}(res:α→SV):Except Nat (α×Nat)→Out
 |.ok (v,_)=>.ret (res v)
 |.error _=>.pan wrongV
theorem z3R{P:Program}{α:Type}{f:FuncId}{args:List SV}{b:List UInt8}{n:Nat}{E:List SObj}{res:α→SV}{upd:α→List SObj}{x:Except Nat (α×Nat)}(hl:∀v,E.length≤(upd v).length)(h:VC P f args (rdr b n :: E) (SealO (effO res x) (effH b n E upd x))):Eff P f args b n E res upd x:=by
 cases x with
 |error e=>exact q0b (by simp [effH]) h
 |ok y=>obtain ⟨v,k⟩:=y;exact q0b (by simp [effH];exact hl v) h
attribute [go_sem] effO effH
theorem z0v(v:Prin):PC Tryz.prog 127 [.agg (PrinT.cells v),rI 0] (.agg (PrinT.cells v)):=by
 refine q0q rfl rfl ?_;refine rQ fi127 ?_;refine q0m (fun _=> ?_) fun h=>absurd h (by decide)
 refine gQ ?_;trivial
theorem q5Y(e:Nat)(he:e≠0):PE Tryz.prog 127 [zPrin,rI e] [] (.pan wrongV) []:=by
 refine q0b (by simp) ?_
 refine rQ fi127 ?_;refine q0m (fun h=>absurd h (by simp;omega)) fun _=> ?_
 with_reducible refine sxE ?_;trivial
theorem z2H{α:Type}(g:Nat)(i:Nat)(hi:i≤30)(b:List UInt8)(n:Nat)(hn:n≤b.length)(hb:b.length≤1099511627776)(T:TypeId)(cs:List SV)(hc:Cln cs)(p:PR α)(hp:FitsP p)(upd:α→List SV)(hu:∀v,Cln (upd v))(d:α)(hd:SV.leAL cs (upd d))
 (hg:Eff Tryz.prog g [.agg [.ptr 0 0],.ptr 1 0] (takeC (b.drop n)) 0 [.cells T cs] (fun _=>.tup []) (fun v=>[.cells T (upd v)]) (p (takeC (b.drop n)))):
 Eff Tryz.prog 134 [.agg [.ptr 0 0],rI i,.fn g [] [.ptr 1 0]] b n [.cells T cs] (fun _=>rB (nextB i (b.drop n))) (fun v=>[.cells T (upd v)]) (dfltP d i p (b.drop n)):=by
 cases h:nextB i (b.drop n) with
 |false=>
  rw [z4f h];have w1:=z1h hc;have hs:=q5O i hi b n hn h;refine q0b (by simp) ?_
  refine rQ fi134 ?_;refine effC mixed [0] (hs) w1 ?_;refine q0m (fun _=> ?_) fun h=>absurd h (by decide)
  refine gy2 w1 hd ?_;rfl
 |true=>
  rw [z2T h];exact z0J g i hi b n hn hb T cs hc p hp upd hu hg h
@[go_sem] abbrev paO(cs:List SV):SObj:=.cells 28 cs
@[go_sem] abbrev pa0:List SV:=[.raw (.slice none 0 0),rS ⟨#[]⟩,rI 0,rI 0,.raw (.slice none 0 0),.raw (.slice none 0 0)]
@[go_sem] abbrev pa1(c:Prin)(a u:Int):List SV:=[.isl .str c.1,rS c.2,rI a,rI u,.raw (.slice none 0 0),.raw (.slice none 0 0)]
@[go_sem] abbrev pa4(c:Prin)(a u:Int)(g:List Int):List SV:=[.isl .str c.1,rS c.2,rI a,rI u,.isl I64 g,.raw (.slice none 0 0)]
theorem z7g:Cln pa0:=q0n (q0n (q0n (q0n (q0n (q0n q3b)))))
theorem q4z(c:Prin)(a u:Int):Cln (pa1 c a u):=q2f (q0n (q0n (q0n (q0n (q0n q3b)))))
theorem q9M(c:Prin)(a u:Int)(g:List Int):Cln (pa4 c a u g):=q2f (q0n (q0n (q0n (q2f (q0n q3b)))))

theorem j3m(b:List UInt8)(n:Nat)(hn:n≤b.length)(hb:b.length≤1099511627776):
 Eff Tryz.prog 126 [.agg [.ptr 0 0],.ptr 1 0] b n [paO pa0] (fun _=>.tup []) (fun v:Prin=>[paO (pa1 v 0 0)]) (nameP (b.drop n)):=by
 have hr0:=z6d b n hn hb;cases hx:nameP (b.drop n) with
 |error e=>
  have hr:=q6W hr0 hx;refine q0b (by simp) ?_
  refine rQ fi126 ?_;refine eQ [0] (hr) ?_;refine effP [] (q5Y e (z3u _ _ hx)) ?_;trivial
 |ok x=>
  obtain ⟨v,k⟩:=x;have hr:=q7j hr0 hx;refine q0b (by simp) ?_
  refine rQ fi126 ?_;refine eQ [0] (hr) ?_;refine cQ (z0v _) ?_;trivial

theorem j4h(b:List UInt8)(n:Nat)(hn:n≤b.length)(hb:b.length≤1099511627776)(c:Prin):
 Eff Tryz.prog 129 [.agg [.ptr 0 0],.ptr 1 0] b n [paO (pa1 c 0 0)] (fun _=>.tup []) (fun v:Nat=>[paO (pa1 c (v:Nat) 0)]) (timeP (b.drop n)):=by
 cases hx:timeP (b.drop n) with
 |error e=>
  have hr:=z9v b n hn hb hx;refine q0b (by simp) ?_
  refine rQ fi129 ?_;refine eQ [0] (hr) ?_;refine effP [] (q4y _ e (q6d hx)) ?_;trivial
 |ok x=>
  obtain ⟨v,k⟩:=x;have hr:=z8l b n hn hb hx;refine q0b (by simp) ?_
  refine rQ fi129 ?_;refine eQ [0] (hr) ?_;refine cQ (q8H _) ?_;trivial

theorem j3e(b:List UInt8)(n:Nat)(hn:n≤b.length)(hb:b.length≤1099511627776)(c:Prin)(a:Int):
 Eff Tryz.prog 132 [.agg [.ptr 0 0],.ptr 1 0] b n [paO (pa1 c a 0)] (fun _=>.tup []) (fun v:Int=>[paO (pa1 c a v)]) (intP (b.drop n)):=by
 cases hx:intP (b.drop n) with
 |error e=>
  have hr:=z1x b n hn hb hx;refine q0b (by simp) ?_
  refine rQ fi132 ?_;refine eQ [0] (hr) ?_;refine effP [] (q4y _ e (q6d hx)) ?_;trivial
 |ok x=>
  obtain ⟨v,k⟩:=x;have hr:=z2a b n hn hb hx;refine q0b (by simp) ?_
  refine rQ fi132 ?_;refine eQ [0] (hr) ?_;refine cQ (q8H _) ?_;trivial

theorem j3Y(b:List UInt8)(n:Nat)(hn:n≤b.length)(hb:b.length≤1099511627776)(c:Prin)(a u:Int):
 Eff Tryz.prog 136 [.agg [.ptr 0 0],.ptr 1 0] b n [paO (pa1 c a u)] (fun _=>.tup []) (fun l=>[paO (pa4 c a u l)]) (listP intP 64 (b.drop n)):=by
 refine z3R (fun _=>Af _) ?_;generalize hx:listP intP 64 (b.drop n)=X;refine rQ fi136 ?_;refine q3Y 1 4 (I64) rfl rfl rfl ?_;with_reducible refine sxE ?_
 refine q0x (ι:=Nat×List (I64).den×List SObj) (fun s=>[]) (fun s=>[rdr b s.1,paO [.isl .str c.1,rS c.2,rI a,rI u,.bld (s.2.2.length+3) I64 s.2.1.length,.raw (.slice none 0 0)],.cells 96 [.ptr 0 0]]++s.2.2++ [.row (I64) s.2.1]) (fun s=>130-s.2.1.length) (fun s=>s.2.1.length≤64∧n≤s.1∧s.1≤b.length∧X=tailP s.2.1 (s.1-n) (listP intP (64-s.2.1.length) (b.drop s.1))) (n,[],[]) ⟨Al _,Af _,hn,?_⟩ rfl ?_ ?_
 · rw [CV,q9x];exact hx.symm
 · with_reducible refine sxE ?_;trivial
 rintro ⟨k,xs,G⟩ ⟨h1,h2,h3,h4⟩;dsimp only at h1 h2 h3 h4;have hleft:=q2z b k h3;refine aQ ?_;refine q0H [0] hleft rfl (by decide) ⟨rfl,rfl,trivial⟩ rfl rfl ?_
 simp only [afterO,Out.ren,SV.ren,mgA,sig,SObj.ren,SV.renL,Ay,Au,List.append_assoc,Bx,By,List.set,List.map,Aj];refine aQ ?_;refine ⟨fun hp0=>q0m (fun hmo=> ?_) (fun hmo=> ?_),fun hp0=> ?_⟩
 · have hlt:xs.length<64:=by have:=of_decide_eq_true hmo;omega
   have hkl:k<b.length:=by omega
   refine uQ 1 _ ?_;with_reducible refine sxaE ?_
   refine q2D [1,2] mixed ?_;refine aQ ?_;cases hpk:intP (b.drop k) with
   |error e=>
    have hg':=z1x b k h3 hb hpk;have hX:=h4.trans (q6E hkl (by omega) hpk)
    rw [hX];refine q0F [0] hg' rfl (by decide) ⟨rfl,rfl,trivial⟩ rfl rfl ?_ ?_
    · simp (maxSteps:=3000000) only [mgA,sig,q1o,q1y,List.append_assoc,getA,getA0,setA,setA0,Ae,Nat.add_assoc,go_sem,↓zA,↓reduceIte,↓reduceDIte] <;>try simp only [zB]
    refine rnE ?_;refine aQ ?_;refine q0F [] (q4y _ e (q6d hpk)) rfl (by decide) trivial rfl rfl ?_ ?_
    · simp (maxSteps:=3000000) only [mgA,sig,q1o,q1y,List.append_assoc,getA,getA0,setA,setA0,Ae,Nat.add_assoc,go_sem,↓zA,↓reduceIte,↓reduceDIte] <;>try simp only [zB]
    simp only [afterR,Out.ren,SV.ren,mgA,sig,SObj.ren,SV.renL,Ay,Au,List.append_assoc,Bx,By,List.set,List.map,Aj,effO,effH];with_reducible refine sxaE ?_;trivial
   |ok y=>
    obtain ⟨v,m⟩:=y;have hg':=z2a b k h3 hb hpk;have hfit:=q3p _ _ _ hpk;rw [Ak] at hfit;have hX:=h4.trans (q5v hkl (by omega) hpk)
    refine q0F [0] hg' rfl (by decide) ⟨rfl,rfl,trivial⟩ rfl rfl ?_ ?_
    · simp (maxSteps:=3000000) only [mgA,sig,q1o,q1y,List.append_assoc,getA,getA0,setA,setA0,Ae,Nat.add_assoc,go_sem,↓zA,↓reduceIte,↓reduceDIte] <;>try simp only [zB]
    refine rnE ?_;refine aQ ?_;refine q0l (q8H _) ?_;refine aQ ?_;refine ⟨⟨by omega,by omega⟩,(k+m,xs++ [v],G++ [.dead,.row I64 [v]]),⟨by simp;omega,by dsimp only;omega,by dsimp only;omega,?_⟩,by simp;omega,?_,?_⟩
    · dsimp only;rw [hX,Ae,Bo,Nat.sub_sub];congr 1;omega
    · simp
    with_reducible refine sxaE ?_;trivial
 · have hlt:¬xs.length<64:=by have:=of_decide_eq_false hmo;omega
   have hm0:64-xs.length=0:=by omega
   rw [hm0] at h4;have hX:=h4.trans (q8p (by omega))
   rw [hX];simp (maxSteps:=3000000) only [effO,effH,List.append_assoc,getA,getA0,setA,setA0,Ae,Nat.add_assoc,go_sem,↓zA,↓reduceIte,↓reduceDIte] <;>try simp only [zB]
 have hX:=h4.trans (q7C (by omega))
 rw [hX];simp (maxSteps:=3000000) only [effO,effH,List.append_assoc,getA,getA0,setA,setA0,Ae,Nat.add_assoc,go_sem,↓zA,↓reduceIte,↓reduceDIte] <;>try simp only [zB]
 rw [if_neg (by omega)]
 with_reducible refine sxE ?_
 refine ⟨congrArg (Value.int .i64) (by omega),⟨Af _,by omega⟩,Ah (Af _)⟩

theorem j3N(b:List UInt8)(n:Nat)(hn:n≤b.length)(hb:b.length≤1099511627776)(c:Prin)(a u:Int)(g:List Int):
 Eff Tryz.prog 139 [.agg [.ptr 0 0],.ptr 1 0] b n [paO (pa4 c a u g)] (fun _=>.tup []) (fun l=>[paO (PacT.cells ((c,a,u,g,l):Pac))]) (listP nameP 16 (b.drop n)):=by
 refine z3R (fun _=>Af _) ?_;generalize hx:listP nameP 16 (b.drop n)=X;refine rQ fi139 ?_;refine q3Y 1 5 (PrinT) rfl rfl rfl ?_;with_reducible refine sxE ?_
 refine q0x (ι:=Nat×List (PrinT).den×List SObj) (fun s=>[]) (fun s=>[rdr b s.1,paO [.isl .str c.1,rS c.2,rI a,rI u,.isl I64 g,.bld (s.2.2.length+3) PrinT s.2.1.length],.cells 96 [.ptr 0 0]]++s.2.2++ [.row (PrinT) s.2.1]) (fun s=>34-s.2.1.length) (fun s=>s.2.1.length≤16∧n≤s.1∧s.1≤b.length∧X=tailP s.2.1 (s.1-n) (listP nameP (16-s.2.1.length) (b.drop s.1))) (n,[],[]) ⟨Al _,Af _,hn,?_⟩ rfl ?_ ?_
 · rw [CV,q9x];exact hx.symm
 · with_reducible refine sxE ?_;trivial
 rintro ⟨k,xs,G⟩ ⟨h1,h2,h3,h4⟩;dsimp only at h1 h2 h3 h4;have hleft:=q2z b k h3;refine aQ ?_;refine q0H [0] hleft rfl (by decide) ⟨rfl,rfl,trivial⟩ rfl rfl ?_
 simp only [afterO,Out.ren,SV.ren,mgA,sig,SObj.ren,SV.renL,Ay,Au,List.append_assoc,Bx,By,List.set,List.map,Aj];refine aQ ?_;refine ⟨fun hp0=>q0m (fun hmo=> ?_) (fun hmo=> ?_),fun hp0=> ?_⟩
 · have hlt:xs.length<16:=by have:=of_decide_eq_true hmo;omega
   have hkl:k<b.length:=by omega
   refine uQ 1 _ ?_;with_reducible refine sxaE ?_
   refine q2D [1,2] mixed ?_;refine aQ ?_;cases hpk:nameP (b.drop k) with
   |error e=>
    have hg':=q6W (z6d b k h3 hb) hpk;have hX:=h4.trans (q6E hkl (by omega) hpk)
    rw [hX];refine q0F [0] hg' rfl (by decide) ⟨rfl,rfl,trivial⟩ rfl rfl ?_ ?_
    · simp (maxSteps:=3000000) only [mgA,sig,q1o,q1y,List.append_assoc,getA,getA0,setA,setA0,Ae,Nat.add_assoc,go_sem,↓zA,↓reduceIte,↓reduceDIte] <;>try simp only [zB]
    refine rnE ?_;refine aQ ?_;refine q0F [] (q5Y e (z3u _ _ hpk)) rfl (by decide) trivial rfl rfl ?_ ?_
    · simp (maxSteps:=3000000) only [mgA,sig,q1o,q1y,List.append_assoc,getA,getA0,setA,setA0,Ae,Nat.add_assoc,go_sem,↓zA,↓reduceIte,↓reduceDIte] <;>try simp only [zB]
    simp only [afterR,Out.ren,SV.ren,mgA,sig,SObj.ren,SV.renL,Ay,Au,List.append_assoc,Bx,By,List.set,List.map,Aj,effO,effH];with_reducible refine sxaE ?_;trivial
   |ok y=>
    obtain ⟨v,m⟩:=y;have hg':=q7j (z6d b k h3 hb) hpk;have hfit:=q5n _ _ _ hpk;rw [Ak] at hfit;have hX:=h4.trans (q5v hkl (by omega) hpk)
    refine q0F [0] hg' rfl (by decide) ⟨rfl,rfl,trivial⟩ rfl rfl ?_ ?_
    · simp (maxSteps:=3000000) only [mgA,sig,q1o,q1y,List.append_assoc,getA,getA0,setA,setA0,Ae,Nat.add_assoc,go_sem,↓zA,↓reduceIte,↓reduceDIte] <;>try simp only [zB]
    refine rnE ?_;refine aQ ?_;refine q0l (z0v _) ?_;refine aQ ?_;refine ⟨(q9i _ _ _ (by rw [List.length_drop];omega) hpk).2,⟨by omega,by omega⟩,(k+m,xs++ [v],G++ [.dead,.row PrinT [v]]),⟨by simp;omega,by dsimp only;omega,by dsimp only;omega,?_⟩,by simp;omega,?_,?_⟩
    · dsimp only;rw [hX,Ae,Bo,Nat.sub_sub];congr 1;omega
    · simp
    with_reducible refine sxaE ?_;trivial
 · have hlt:¬xs.length<16:=by have:=of_decide_eq_false hmo;omega
   have hm0:16-xs.length=0:=by omega
   rw [hm0] at h4;have hX:=h4.trans (q8p (by omega))
   rw [hX];simp (maxSteps:=3000000) only [effO,effH,List.append_assoc,getA,getA0,setA,setA0,Ae,Nat.add_assoc,go_sem,↓zA,↓reduceIte,↓reduceDIte] <;>try simp only [zB]
 have hX:=h4.trans (q7C (by omega))
 rw [hX];simp (maxSteps:=3000000) only [effO,effH,List.append_assoc,getA,getA0,setA,setA0,Ae,Nat.add_assoc,go_sem,↓zA,↓reduceIte,↓reduceDIte] <;>try simp only [zB]
 rw [if_neg (by omega)]
 with_reducible refine sxE ?_
 refine ⟨congrArg (Value.int .i64) (by omega),⟨Af _,by omega⟩,Ah (Af _)⟩

theorem j4y(b:List UInt8)(n:Nat)(hn:n≤b.length)(hb:b.length≤1099511627776)(c:Prin)(a u:Int):
 Eff Tryz.prog 135 [.agg [.ptr 0 0],.ptr 1 0] b n [paO (pa1 c a u)] (fun _=>.tup []) (fun l:List Int=>[paO (pa4 c a u l)]) (inP 48 (listP intP 64) (b.drop n)):=by
 have h1:=j3Y (takeC (b.drop n)) 0 (Al _) (q1r hb) c a u;rw [Ar] at h1;have hs:=sequence1 136 b n hn hb 28 _ (q4z c a u) (listP intP 64) (q5k q3p 64) (fun l:List Int=>pa4 c a u l) (fun l=>q9M c a u l) h1;cases hx:inP 48 (listP intP 64) (b.drop n) with
 |error e=>
  have hm':=q2e hs hx;refine q0b (by simp) ?_
  refine rQ fi135 ?_;refine effP [0,1] (hm') ?_;trivial
 |ok x=>
  obtain ⟨v,k⟩:=x;have hm':=q1P hs hx;refine q0b (by simp) ?_
  refine rQ fi135 ?_;refine eQ [0,1] (hm') ?_;trivial

theorem j4t(b:List UInt8)(n:Nat)(hn:n≤b.length)(hb:b.length≤1099511627776)(c:Prin)(a u:Int)(g:List Int):
 Eff Tryz.prog 138 [.agg [.ptr 0 0],.ptr 1 0] b n [paO (pa4 c a u g)] (fun _=>.tup []) (fun l:List Prin=>[paO (PacT.cells ((c,a,u,g,l):Pac))]) (inP 48 (listP nameP 16) (b.drop n)):=by
 have h1:=j3N (takeC (b.drop n)) 0 (Al _) (q1r hb) c a u g;rw [Ar] at h1;have hs:=sequence1 139 b n hn hb 28 _ (q9M c a u g) (listP nameP 16) (q5k q5n 16) (fun l:List Prin=>PacT.cells ((c,a,u,g,l):Pac)) (fun l=>z0t PacT (c,a,u,g,l)) h1;cases hx:inP 48 (listP nameP 16) (b.drop n) with
 |error e=>
  have hm':=q2e hs hx;refine q0b (by simp) ?_
  refine rQ fi138 ?_;refine effP [0,1] (hm') ?_;trivial
 |ok x=>
  obtain ⟨v,k⟩:=x;have hm':=q1P hs hx;refine q0b (by simp) ?_
  refine rQ fi138 ?_;refine eQ [0,1] (hm') ?_;trivial

theorem j4o(c:Prin)(a u:Int):SV.leAL (pa1 c a u) (pa4 c a u []):=by
 simp [q1z,q6s,q9a,z1Z,q8M]
theorem j3K(c:Prin)(a u:Int)(g:List Int):SV.leAL (pa4 c a u g) (PacT.cells ((c,a,u,g,[]):Pac)):=by
 simp [Ty.cells,q1z,q6s,q9a,z1Z,q8M]
def grpsP:PR (List Int):=inP 48 (listP intP 64)
def pacIn:PR Pac:=bindP (needP 0 nameP) fun c=>bindP (needP 1 timeP) fun a=>bindP (needP 2 intP) fun u=>bindP (dfltP [] 3 grpsP) fun g=>bindP (dfltP [] 4 nmsP) fun l=>retP ((c,((a:Nat):Int),u,g,l):Pac)
def pacP:PR Pac:=inP 48 pacIn
theorem z4k:FitsP pacIn:=q1F q0D fun _=>q1F q0D fun _=>q1F q0D fun _=>q1F q3N fun _=>q1F q3N fun _=>z0Z
theorem j4u(b:List UInt8)(n:Nat)(hn:n≤b.length)(hb:b.length≤1099511627776):
 Eff Tryz.prog 125 [.agg [.ptr 0 0],.ptr 1 0] b n [paO pa0] (fun _=>.tup []) (fun p=>[paO (PacT.cells p)]) (pacIn (b.drop n)):=by
 refine z3R (fun _=>Af _) ?_;obtain ⟨X,hX0⟩:∃X,X=pacIn (b.drop n):=⟨_,rfl⟩;rw [←hX0];have hX:=hX0.trans z5V;clear hX0;unfold pacIn at hX;refine rQ fi125 ?_;have c1:=need1 126 0 (by omega) b (n) hn hb 28 _ z7g nameP q5n _ (fun p=>q4z p 0 0) (by have h:=j3m (takeC (b.drop (n))) 0 (Al _) (q1r hb);rwa [Ar] at h)
 rcases h1:needP 0 nameP (b.drop (n)) with e| ⟨v1,k1⟩
 · have c1':=q2e c1 h1;obtain rfl:=q3F hX h1;refine effP [0,1] (c1') ?_;trivial
 replace hX:=q3y hX h1;have c1':=q1P c1 h1;have f1:=q2u q0D hn h1;refine eQ [0,1] (c1') ?_;have c2:=need1 129 1 (by omega) b (n+k1) f1 hb 28 _ (q4z v1 0 0) timeP q3p _ (fun p=>q4z v1 (p:Nat) 0) (by have h:=j4h (takeC (b.drop (n+k1))) 0 (Al _) (q1r hb) v1;rwa [Ar] at h)
 rcases h2:needP 1 timeP (b.drop (n+k1)) with e| ⟨v2,k2⟩
 · have c2':=q2e c2 h2;obtain rfl:=q3F hX h2;refine effP [0,1] (c2') ?_;trivial
 replace hX:=q3y hX h2;have c2':=q1P c2 h2;have f2:=q2u q0D f1 h2;refine eQ [0,1] (c2') ?_;have c3:=need1 132 2 (by omega) b (n+k1+k2) f2 hb 28 _ (q4z v1 (v2:Nat) 0) intP q3p _ (fun p=>q4z v1 (v2:Nat) p) (by have h:=j3e (takeC (b.drop (n+k1+k2))) 0 (Al _) (q1r hb) v1 (v2:Nat);rwa [Ar] at h)
 rcases h3:needP 2 intP (b.drop (n+k1+k2)) with e| ⟨v3,k3⟩
 · have c3':=q2e c3 h3;obtain rfl:=q3F hX h3;refine effP [0,1] (c3') ?_;trivial
 replace hX:=q3y hX h3;have c3':=q1P c3 h3;have f3:=q2u q0D f2 h3;refine eQ [0,1] (c3') ?_;have c4:=z2H 135 3 (by omega) b (n+k1+k2+k3) f3 hb 28 _ (q4z v1 (v2:Nat) v3) grpsP q2j _ (fun p=>q9M v1 (v2:Nat) v3 p) [] (j4o _ _ _) (by have h:=j4y (takeC (b.drop (n+k1+k2+k3))) 0 (Al _) (q1r hb) v1 (v2:Nat) v3;rwa [Ar] at h)
 rcases h4:dfltP [] 3 grpsP (b.drop (n+k1+k2+k3)) with e| ⟨v4,k4⟩
 · have c4':=q2e c4 h4;obtain rfl:=q3F hX h4;refine effP [0,1] (c4') ?_;trivial
 replace hX:=q3y hX h4;have c4':=q1P c4 h4;have f4:=q2u q3N f3 h4;refine eQ [0,1] (c4') ?_;have c5:=z2H 138 4 (by omega) b (n+k1+k2+k3+k4) f4 hb 28 _ (q9M v1 (v2:Nat) v3 v4) nmsP q2j _ (fun p=>z0t PacT (v1,((v2:Nat):Int),v3,v4,p)) [] (j3K _ _ _ _) (by have h:=j4t (takeC (b.drop (n+k1+k2+k3+k4))) 0 (Al _) (q1r hb) v1 (v2:Nat) v3 v4;rwa [Ar] at h)
 rcases h5:dfltP [] 4 nmsP (b.drop (n+k1+k2+k3+k4)) with e| ⟨v5,k5⟩
 · have c5':=q2e c5 h5;obtain rfl:=q3F hX h5;refine effP [0,1] (c5') ?_;trivial
 replace hX:=q3y hX h5;have c5':=q1P c5 h5;have f5:=q2u q3N f4 h5;refine eQ [0,1] (c5') ?_;subst hX;simp only [shiftP,retP];with_reducible refine sxE ?_
 exact congrArg (Value.int .i64) (by omega)
theorem j3T(b:List UInt8)(n:Nat)(hn:n≤b.length)(hb:b.length≤1099511627776):
 Eff Tryz.prog 71 [.agg [.ptr 0 0]] b n [] (fun p=>.agg (PacT.cells p)) (fun _=>[]) (pacP (b.drop n)):=by
 have h1:=j4u (takeC (b.drop n)) 0 (Al _) (q1r hb);rw [Ar] at h1;have hs:=sequence1 125 b n hn hb 28 _ z7g pacIn z4k (fun p=>PacT.cells p) (fun p=>z0t PacT p) h1;change Eff _ _ _ _ _ _ _ _ (pacP (b.drop n)) at hs;cases hx:pacP (b.drop n) with
 |error e=>
  have hm':=q2e hs hx;refine q0b (by simp) ?_
  refine rQ fi71 ?_;refine effP [0,2] (hm') ?_;trivial
 |ok x=>
  obtain ⟨v,q⟩:=x;have hm':=q1P hs hx;refine q0b (by simp) ?_
  refine rQ fi71 ?_;refine eQ [0,2] (hm') ?_;trivial
theorem j1u:OkP pacP PacT.ok:=
 q8A (q1N (q3d q9i) fun _ h0=>q1N (Q1:=fun _=>True) q5a fun _ _=>q1N (Q1:=fun _=>True) q5a fun _ _=>q1N (z3Y (Q:=(Ty.slice I64).ok) z2U (j3d (t:=I64) 64 (by omega) q5a)) fun _ h3=>q1N (z3Y (Q:=(Ty.slice PrinT).ok) z2U (j3d (t:=PrinT) 16 (by omega) q9i)) fun _ h4=>z2e ⟨h0,trivial,trivial,h3,h4⟩)
end Go.Proofs.YtmapiojgmbgbgaaGreatDoor
