/- Authenticators: their encoding. -/
import Derived.Test.YthbcodbcndiapaaGreatDoorP11
set_option linter.all false
namespace Go.Proofs.YthbcodbcndiapaaGreatDoor
open Go Go.Sx Go.Proofs
set_option maxRecDepth 100000
set_option maxHeartbeats 40000000
def sumE(a:Aut):List (List UInt8):=if a.2.1.length=0 then [] else [wrapS 160 2 (elemS 4 [a.2.1])]
def subE(a:Aut):List (List UInt8):=if a.2.2.2.2.1.1=0 then [] else [wrapS 160 5 (keyS a.2.2.2.2.1)]
def datE(a:Aut):List (List UInt8):=if a.2.2.2.2.2.2.length=0 then [] else [wrapS 160 7 (dataS a.2.2.2.2.2.2)]
theorem k0s(a:Aut)(xs:List (List UInt8))(hl:xs.length<=100):PE Tryz.prog 32 [.bld 0 (.slice .u8) xs.length,.iptr AutT a 0] [.row (.slice .u8) xs] (.ret (.bld 1 (.slice .u8) (xs++sumE a).length)) [.dead,.row (.slice .u8) (xs++sumE a)]:=by
 have c1:=z1C a.2.1;have c2:=q2d 2 (elemS 4 [a.2.1]);unfold sumE;obtain ⟨c,s,t,m,k,q,d⟩:=a;dsimp only at*;refine j1E ?_;refine rQ fi32 ?_;refine ⟨λh=> ?_,λh=>q0a c1 ?_⟩
 . rw [if_pos (by omega),Ac];exact q6D (h:=0) rfl rfl (by simp)
 rw [if_neg (by omega)];refine gQ ?_;refine cQ c2 ?_;refine ⟨⟨by omega,by omega⟩,?_⟩;exact q6D rfl (by simp) (by simp)
theorem j9Z(a:Aut)(xs:List (List UInt8))(hl:xs.length<=100):PE Tryz.prog 35 [.bld 0 (.slice .u8) xs.length,.iptr AutT a 0] [.row (.slice .u8) xs] (.ret (.bld 1 (.slice .u8) (xs++subE a).length)) [.dead,.row (.slice .u8) (xs++subE a)]:=by
 have c1:=j9B a.2.2.2.2.1;have c2:=q2d 5 (keyS a.2.2.2.2.1);unfold subE;obtain ⟨c,s,t,m,k,q,d⟩:=a;dsimp only at*;refine j1E ?_;refine rQ fi35 ?_;refine ⟨λh=> ?_,λh=>q0a c1 ?_⟩
 . rw [if_pos (by omega),Ac];exact q6D (h:=0) rfl rfl (by simp)
 rw [if_neg (by omega)];refine gQ ?_;refine cQ c2 ?_;refine ⟨⟨by omega,by omega⟩,?_⟩;exact q6D rfl (by simp) (by simp)
theorem k0k(a:Aut)(xs:List (List UInt8))(hl:xs.length<=100):PE Tryz.prog 37 [.bld 0 (.slice .u8) xs.length,.iptr AutT a 0] [.row (.slice .u8) xs] (.ret (.bld 1 (.slice .u8) (xs++datE a).length)) [.dead,.row (.slice .u8) (xs++datE a)]:=by
 have c1:=k0n a.2.2.2.2.2.2;have c2:=q2d 7 (dataS a.2.2.2.2.2.2);unfold datE;obtain ⟨c,s,t,m,k,q,d⟩:=a;dsimp only at*;refine j1E ?_;refine rQ fi37 ?_;refine ⟨λh=> ?_,λh=>q0a c1 ?_⟩
 . rw [if_pos (by omega),Ac];exact q6D (h:=0) rfl rfl (by simp)
 rw [if_neg (by omega)];refine gQ ?_;refine cQ c2 ?_;refine ⟨⟨by omega,by omega⟩,?_⟩;exact q6D rfl (by simp) (by simp)
def encL(a:Aut):List (List UInt8):=((([wrapS 160 0 (intS 5),wrapS 160 1 (prinS a.1)]++sumE a)++ [wrapS 160 3 (intS a.2.2.2.1),wrapS 160 4 (timeS a.2.2.1)]++subE a)++ [wrapS 160 6 (intS a.2.2.2.2.2.1)])++datE a
def autS(a:Aut):List UInt8:=wrapS 96 2 (elemS 48 (encL a))
theorem q8E(a:Aut)(n:AutT.ok a):PC Tryz.prog 10 [.agg (AutT.cells a)] (.tup [.isl .u8 (if vAut a then autS a else []),rI (if vAut a then 0 else 2)]):=by
 have c1:=q7p a n;have c2:=z9R a.1 n.1;have w:vAut a=true->vPrin a.1=true:=λh=>by unfold vAut at h;simp only [Ai] at h;exact h.1
 cases u:vAut a with
 |false=>rw [u] at c1;obtain ⟨c,s,t,m,k,q,d⟩:=a;refine q0g rfl rfl ?_;refine rQ fi10 ?_;refine cQ c1 ?_;trivial
 |true=>
  rw [w u] at c2;rw [u] at c1;simp only [if_true] at c2⊢;have C:=k0s a;have A:=j9Z a;have D:=k0k a;have j:encL a=((([wrapS 160 0 (intS 5),wrapS 160 1 (prinS a.1)]++sumE a)++ [wrapS 160 3 (intS a.2.2.2.1),wrapS 160 4 (timeS a.2.2.1)]++subE a)++ [wrapS 160 6 (intS a.2.2.2.2.2.1)])++datE a:=rfl;have l1:(sumE a).length<=1:=by unfold sumE;split<;>simp
  have l2:(subE a).length<=1:=by unfold subE;split<;>simp
  have l3:(datE a).length<=1:=by unfold datE;split<;>simp
  refine q0g rfl rfl ?_;refine rQ fi10 ?_;refine cQ c1 ?_;refine q0a c2 ?_;refine q2l 1 0 (ty:=AutT) (x:=a) rfl n rfl rfl ?_;refine uQ 19 _ ?_;with_reducible refine sxE ?_
  refine q1x [999999,1] mixed ?_;refine uQ 1 _ ?_;with_reducible refine sxE ?_
  refine z9o rfl rfl rfl rfl rfl rfl ?_;refine gQ ?_;refine cR (q3c 5) ?_;refine cR (q2d 0 (intS 5)) ?_;refine cR (q2d 1 (prinS a.1)) ?_;refine ⟨rfl,?_⟩;have e1':=C [wrapS 160 0 (intS 5),wrapS 160 1 (prinS a.1)] (by simp);have e:([wrapS 160 0 (intS 5),wrapS 160 1 (prinS a.1)]++sumE a).length<=3:=by rw [Ab];show 2+_<=3;omega
  generalize [wrapS 160 0 (intS 5),wrapS 160 1 (prinS a.1)]++sumE a=y at e1' e j;refine q0t [2] e1' rfl (by decide) ⟨rfl,rfl,trivial⟩ rfl rfl ?_ ?_
  . simp (maxSteps:=3000000) only [mgA,sig,q0y,q0E,List.append_assoc,getA,getA0,setA,setA0,Ab,Ax,go_sem,↓zA,↓reduceIte,↓reduceDIte] <;>try simp only [zB]
    rfl
  refine rnE ?_;refine uQ 3 _ ?_;with_reducible refine sxE ?_
  refine q1x [999999] mixed ?_;refine gQ ?_;refine cR (q3c _) ?_;refine cR (q2d _ _) ?_;refine cR (k0r _) ?_;refine q0d (q2d _ _) ?_;refine uQ 5 _ ?_;with_reducible refine sxE ?_
  refine ⟨rfl,⟨by omega,by omega⟩,?_⟩;refine q1x [999999,1] mixed ?_;refine uQ 1 _ ?_;with_reducible refine sxE ?_
  refine z9o rfl rfl rfl rfl rfl rfl ?_;refine gQ ?_;have e2':=A (y++ [wrapS 160 3 (intS a.2.2.2.1),wrapS 160 4 (timeS a.2.2.1)]) (by rw [Ab];show _+2<=100;omega);have f:(y++ [wrapS 160 3 (intS a.2.2.2.1),wrapS 160 4 (timeS a.2.2.1)]++subE a).length<=6:=by rw [Ab,Ab];show _+2+_<=6;omega
  generalize y++ [wrapS 160 3 (intS a.2.2.2.1),wrapS 160 4 (timeS a.2.2.1)]++subE a=z at e2' f j;refine q0t [5] e2' (by simp [sig,SV.renL,SV.ren]) (by decide) ⟨rfl,rfl,trivial⟩ rfl rfl ?_ ?_
  . simp (maxSteps:=3000000) only [mgA,sig,q0y,q0E,List.append_assoc,getA,getA0,setA,setA0,Ab,Ax,go_sem,↓zA,↓reduceIte,↓reduceDIte] <;>try simp only [zB]
    rfl
  refine rnE ?_;refine gQ ?_;refine cR (q3c _) ?_;refine cR (q2d _ _) ?_;refine ⟨rfl,⟨by omega,by omega⟩,?_⟩;have e3':=D (z++ [wrapS 160 6 (intS a.2.2.2.2.2.1)]) (by rw [Ab];show _+1<=100;omega);have o:(z++ [wrapS 160 6 (intS a.2.2.2.2.2.1)]++datE a).length<=8:=by rw [Ab,Ab];show _+1+_<=8;omega
  rw [<-j] at e3' o;refine q0j [8] e3' (by simp [sig,SV.renL,SV.ren]) (by decide) ⟨rfl,rfl,trivial⟩ rfl rfl ?_;simp only [afterO,Out.ren,SV.ren,mgA,sig,SObj.ren,SV.renL,Ay,Ar,List.append_assoc,Bi,Bc,List.set,List.map,Ac];refine gQ ?_;have B:=q4K (encL a) (by omega);refine q0x 9 ?_;with_reducible refine sxE ?_
  refine ⟨by omega,Ad _,?_⟩;rw [Aa (Ad _)];refine cQ B ?_;refine cQ (j9F 2 _) ?_;rfl
set_option maxHeartbeats 4000000
def q3V(b:List UInt8)(n:Nat):PE Tryz.prog 68 [.agg [.ptr 0 0],rB true] [rdr b n] (.ret (.tup [])) [rdr b n]:=by refine q0b (by simp) ?_;refine rQ fi68 ?_;trivial
def q5Z(b:List UInt8)(n:Nat):PE Tryz.prog 68 [.agg [.ptr 0 0],rB false] [rdr b n] (.pan (errV 6)) [.dead]:=by refine q0b (by simp) ?_;refine rQ fi68 ?_;trivial
def q4R(b:List UInt8)(n:Nat)(hn:n=b.length):PE Tryz.prog 67 [.agg [.ptr 0 0]] [rdr b n] (.ret (.tup [])) [rdr b n]:=by
 have a:=q3d b n (by omega);have c:=q3V b n;have e:(((b.length-n:Nat):Int)=0)=True:=eq_true (by omega);refine q0b (by simp) ?_;refine rQ fi67 ?_;refine q0t [0] a rfl (by decide) ⟨rfl,rfl,trivial⟩ rfl rfl ?_ ?_
 . simp (maxSteps:=3000000) only [mgA,sig,q0y,q0E,SObj.ren,SV.ren,SV.renL,List.append_assoc,getA,getA0,setA,setA0,Ab,Ax,go_sem,↓zA,↓reduceIte,↓reduceDIte] <;>try simp only [zB]
 refine rnE ?_;refine gy1 e ?_;refine q0t [0] c rfl (by decide) ⟨rfl,rfl,trivial⟩ rfl rfl ?_ ?_
 . simp (maxSteps:=3000000) only [mgA,sig,q0y,q0E,SObj.ren,SV.ren,SV.renL,List.append_assoc,getA,getA0,setA,setA0,Ab,Ax,go_sem,↓zA,↓reduceIte,↓reduceDIte] <;>try simp only [zB]
 refine rnE ?_;refine gQ ?_;trivial
def q5s(b:List UInt8)(n:Nat)(hn:n<b.length):PE Tryz.prog 67 [.agg [.ptr 0 0]] [rdr b n] (.pan (errV 6)) [.dead]:=by
 have a:=q3d b n (by omega);have c:=q5Z b n;have e:(((b.length-n:Nat):Int)=0)=False:=eq_false (by omega);refine q0b (by simp) ?_;refine q2g fi67 (q0p mixed 4 _ ?_);simp (maxSteps:=3000000) only [ir67,go_sem,↓zA,↓reduceIte,↓reduceDIte] <;>try simp only [zB]
 refine q1x [1,999999] mixed ?_;refine gQ ?_;refine q0t [0] a rfl (by decide) ⟨rfl,rfl,trivial⟩ rfl rfl ?_ ?_
 . simp (maxSteps:=3000000) only [mgA,sig,q0y,q0E,SObj.ren,SV.ren,SV.renL,List.append_assoc,getA,getA0,setA,setA0,Ab,Ax,go_sem,↓zA,↓reduceIte,↓reduceDIte] <;>try simp only [zB]
 refine rnE ?_;refine gy1 e ?_;refine q0t [0] c rfl (by decide) ⟨rfl,rfl,trivial⟩ rfl rfl ?_ ?_
 . simp (maxSteps:=3000000) only [mgA,sig,q0y,q0E,SObj.ren,SV.ren,SV.renL,List.append_assoc,getA,getA0,setA,setA0,Ab,Ax,go_sem,↓zA,↓reduceIte,↓reduceDIte] <;>try simp only [zB]
 refine rnE ?_;with_reducible refine sxE ?_;trivial
theorem q5K(v:Value):PC Tryz.prog 184 [.raw v,rI 0] (.raw v):=by refine q0g rfl rfl ?_;refine rQ fi184 ?_;trivial
def q6T(v:Value)(e:Nat)(a:e≠0):PE Tryz.prog 184 [.raw v,rI e] [] (.pan (errV e)) []:=by refine q0b (by simp) ?_;refine rQ fi184 ?_;exact ⟨λ_=>trivial,λh=>absurd (by omega) a⟩
theorem q8L(v:List UInt8):PC Tryz.prog 141 [.isl .u8 v,rI 0] (.isl .u8 v):=by refine q0g rfl rfl ?_;refine rQ fi141 ?_;trivial
def q9k(v:List UInt8)(e:Nat)(a:e≠0):PE Tryz.prog 141 [.isl .u8 v,rI e] [] (.pan (errV e)) []:=by refine q0b (by simp) ?_;refine rQ fi141 ?_;exact ⟨λ_=>trivial,λh=>absurd (by omega) a⟩
theorem q9H(v:Prin):PC Tryz.prog 185 [.agg (PrinT.cells v),rI 0] (.agg (PrinT.cells v)):=by refine q0g rfl rfl ?_;refine rQ fi185 ?_;trivial
def z0N(v:Prin)(e:Nat)(a:e≠0):PE Tryz.prog 185 [.agg (PrinT.cells v),rI e] [] (.pan (errV e)) []:=by refine q0b (by simp) ?_;refine rQ fi185 ?_;exact ⟨λ_=>trivial,λh=>absurd (by omega) a⟩
theorem z3c(v:Key):PC Tryz.prog 146 [.agg (KeyT.cells v),rI 0] (.agg (KeyT.cells v)):=by refine q0g rfl rfl ?_;refine rQ fi146 ?_;trivial
def z1S(v:Key)(e:Nat)(a:e≠0):PE Tryz.prog 146 [.agg (KeyT.cells v),rI e] [] (.pan (errV e)) []:=by refine q0b (by simp) ?_;refine rQ fi146 ?_;exact ⟨λ_=>trivial,λh=>absurd (by omega) a⟩
theorem q9G(v:List Pre):PC Tryz.prog 150 [.isl PreT v,rI 0] (.isl PreT v):=by refine q0g rfl rfl ?_;refine rQ fi150 ?_;trivial
def z1b(v:List Pre)(e:Nat)(a:e≠0):PE Tryz.prog 150 [.isl PreT v,rI e] [] (.pan (errV e)) []:=by refine q0b (by simp) ?_;refine rQ fi150 ?_;exact ⟨λ_=>trivial,λh=>absurd (by omega) a⟩
def q2S(b:List UInt8)(n:Nat):PE Tryz.prog 64 [.ptr 0 0,rI 0] [rdr b n] (.ret (.ptr 0 0)) [rdr b n]:=by refine q0b (by simp) ?_;refine rQ fi64 ?_;trivial
def q6U(e:Nat)(a:e≠0):PE Tryz.prog 64 [.raw (.pointer none),rI e] [] (.pan (errV e)) []:=by refine q0b (by simp) ?_;refine rQ fi64 ?_;exact ⟨λ_=>trivial,λh=>absurd (by omega) a⟩
variable {α:Type}
def moR(res:α->SV)(z:SV):Option α->SV
 |some v=>.tup [res v,rB true]
 |none=>.tup [z,rB false]
def k0I(c:List UInt8)(a:c.length<=1099511627776):EffR Tryz.prog 70 [.ptr 0 0] c 0 (λv:Int=>rI v) (rI 0) (intP c):=by
 cases f:intP c with
 |error e=>exact z7I c 0 (Aj _) a f
 |ok x=>obtain ⟨v,k⟩:=x;exact z9z c 0 (Aj _) a f
def j6C(c:List UInt8)(a:c.length<=1099511627776):EffR Tryz.prog 75 [.ptr 0 0] c 0 (λv:Nat=>rI (v:Nat)) (rI 0) (timeP c):=by
 cases f:timeP c with
 |error e=>exact j3I c 0 (Aj _) a f
 |ok x=>obtain ⟨v,k⟩:=x;exact j1K c 0 (Aj _) a f
def k0E(c:List UInt8)(a:c.length<=1099511627776):EffR Tryz.prog 74 [.ptr 0 0] c 0 (λv:List UInt8=>.isl .u8 v) (.isl .u8 []) (octP c):=by
 cases f:octP c with
 |error e=>exact z8H c 0 (Aj _) a f
 |ok x=>obtain ⟨v,k⟩:=x;exact z9n c 0 (Aj _) a f
def j7k(c:List UInt8)(hc:c.length<=1099511627776):EffR Tryz.prog 72 [.ptr 0 0] c 0 (λv:Prin=>.agg (PrinT.cells v)) zPrin (nameP c):=j9W c 0 (Aj _) hc
def k0L(c:List UInt8)(hc:c.length<=1099511627776):EffR Tryz.prog 77 [.ptr 0 0] c 0 (λv:Key=>.agg (KeyT.cells v)) zKey (keyP c):=j8m c 0 (Aj _) hc
def j8C(c:List UInt8)(hc:c.length<=1099511627776):EffR Tryz.prog 79 [.ptr 0 0] c 0 (λv:List Pre=>.isl PreT v) zDat (dataP c):=j3x c 0 (Aj _) hc
attribute [go_sem] moR
def someP:Except Nat (α×Nat)->Except Nat (Option α×Nat)
 |.ok (v,k)=>.ok (some v,k)
 |.error e=>.error e
variable {i:Nat}{p:PR α}{r:List UInt8}
theorem q2X(h:nextB i r=false):mayP i p r= .ok (none,0):=by unfold mayP;rw [h];rfl
theorem q2Q(h:nextB i r=true):mayP i p r=someP (inP (tagB i) p r):=by
 unfold mayP;rw [if_pos h];cases inP (tagB i) p r with
 |error e=>rfl
 |ok x=>obtain ⟨v,k⟩:=x;rfl
theorem k0G(i:Nat)(u:i<=30)(b:List UInt8)(n:Nat)(w:n<=b.length)(t:b.length<=1099511627776):EffX Tryz.prog 129 [.agg [.ptr 0 0],rI i,.fn 70 [] []] b n (moR (λv:Int=>rI v) (rI 0)) (mayP i intP (b.drop n)):=by
 cases h:nextB i (b.drop n) with
 |false=>rw [q2X h];have f:=q3p i u b n w h;refine q0b (by simp) ?_;refine rQ fi129 ?_;refine eQ [0] (f) ?_;try rfl
 |true=>
  rw [q2Q h];by_cases j:takeE (tagB i) (b.drop n)=0
  . have f:=q3l i u b n w t h j;have z:=q1K (n:=n) t;rw [q3o j];generalize takeC (b.drop n)=c at*;generalize takeN (b.drop n)=N at*;have o:=k0I c z;cases s:intP c with
    |error e=>rw [s] at o;have y:e≠0:=(λ_ _ h=>q7f h) _ _ s;have hr':=q4f o rfl;refine q0b (by simp) ?_;refine rQ fi129 ?_;refine eQ [0] (f) ?_;refine eQ [2] (hr') ?_;refine effP [] (q6T (.int .i64 0) e y) ?_;trivial
    |ok x=>
     obtain ⟨v,m⟩:=x;rw [s] at o;have hr':=q4j o rfl;rw [Ag] at hr';have hm:=(q4L) _ _ _ s;simp only [closeP];by_cases a:m<c.length
     . rw [if_pos a];refine q0b (by simp) ?_;refine rQ fi129 ?_;refine eQ [0] (f) ?_;refine eQ [2] (hr') ?_;refine cQ (q5K _) ?_;refine effP [2] (q5s c m a) ?_;try rfl
     rw [if_neg a];refine q0b (by simp) ?_;refine rQ fi129 ?_;refine eQ [0] (f) ?_;refine eQ [2] (hr') ?_;refine cQ (q5K _) ?_;refine eQ [2] (q4R c m (by omega)) ?_;trivial
  rw [q3W j];have f:=q3n i u b n w t h j;generalize takeE (tagB i) (b.drop n)=e at*;refine q0b (by simp) ?_;refine rQ fi129 ?_;refine eQ [0] (f) ?_;exact ⟨λ_=>trivial,λq=>absurd (by omega) j⟩
theorem j5S(i:Nat)(u:i<=30)(b:List UInt8)(n:Nat)(w:n<=b.length)(t:b.length<=1099511627776):EffX Tryz.prog 129 [.agg [.ptr 0 0],rI i,.fn 75 [] []] b n (moR (λv:Nat=>rI (v:Nat)) (rI 0)) (mayP i timeP (b.drop n)):=by
 cases h:nextB i (b.drop n) with
 |false=>rw [q2X h];have f:=q3p i u b n w h;refine q0b (by simp) ?_;refine rQ fi129 ?_;refine eQ [0] (f) ?_;try rfl
 |true=>
  rw [q2Q h];by_cases j:takeE (tagB i) (b.drop n)=0
  . have f:=q3l i u b n w t h j;have z:=q1K (n:=n) t;rw [q3o j];generalize takeC (b.drop n)=c at*;generalize takeN (b.drop n)=N at*;have o:=j6C c z;cases s:timeP c with
    |error e=>rw [s] at o;have y:e≠0:=(λ_ _ h=>q7f h) _ _ s;have hr':=q4f o rfl;refine q0b (by simp) ?_;refine rQ fi129 ?_;refine eQ [0] (f) ?_;refine eQ [2] (hr') ?_;refine effP [] (q6T (.int .i64 0) e y) ?_;trivial
    |ok x=>
     obtain ⟨v,m⟩:=x;rw [s] at o;have hr':=q4j o rfl;rw [Ag] at hr';have hm:=(q4L) _ _ _ s;simp only [closeP];by_cases a:m<c.length
     . rw [if_pos a];refine q0b (by simp) ?_;refine rQ fi129 ?_;refine eQ [0] (f) ?_;refine eQ [2] (hr') ?_;refine cQ (q5K _) ?_;refine effP [2] (q5s c m a) ?_;try rfl
     rw [if_neg a];refine q0b (by simp) ?_;refine rQ fi129 ?_;refine eQ [0] (f) ?_;refine eQ [2] (hr') ?_;refine cQ (q5K _) ?_;refine eQ [2] (q4R c m (by omega)) ?_;trivial
  rw [q3W j];have f:=q3n i u b n w t h j;generalize takeE (tagB i) (b.drop n)=e at*;refine q0b (by simp) ?_;refine rQ fi129 ?_;refine eQ [0] (f) ?_;exact ⟨λ_=>trivial,λq=>absurd (by omega) j⟩
theorem j9J(i:Nat)(u:i<=30)(b:List UInt8)(n:Nat)(w:n<=b.length)(t:b.length<=1099511627776):EffX Tryz.prog 73 [.agg [.ptr 0 0],rI i,.fn 74 [] []] b n (moR (λv:List UInt8=>.isl .u8 v) (.isl .u8 [])) (mayP i octP (b.drop n)):=by
 cases h:nextB i (b.drop n) with
 |false=>rw [q2X h];have f:=q3p i u b n w h;refine q0b (by simp) ?_;refine rQ fi73 ?_;refine eQ [0] (f) ?_;try rfl
 |true=>
  rw [q2Q h];by_cases j:takeE (tagB i) (b.drop n)=0
  . have f:=q3l i u b n w t h j;have z:=q1K (n:=n) t;rw [q3o j];generalize takeC (b.drop n)=c at*;generalize takeN (b.drop n)=N at*;have o:=k0E c z;cases s:octP c with
    |error e=>rw [s] at o;have y:e≠0:=(λ_ _ h=>q7f h) _ _ s;have hr':=q4f o rfl;refine q0b (by simp) ?_;refine rQ fi73 ?_;refine eQ [0] (f) ?_;refine eQ [2] (hr') ?_;refine effP [] (q9k [] e y) ?_;trivial
    |ok x=>
     obtain ⟨v,m⟩:=x;rw [s] at o;have hr':=q4j o rfl;rw [Ag] at hr';have hm:=(q4L) _ _ _ s;simp only [closeP];by_cases a:m<c.length
     . rw [if_pos a];refine q0b (by simp) ?_;refine rQ fi73 ?_;refine eQ [0] (f) ?_;refine eQ [2] (hr') ?_;refine cQ (q8L _) ?_;refine effP [2] (q5s c m a) ?_;try rfl
     rw [if_neg a];refine q0b (by simp) ?_;refine rQ fi73 ?_;refine eQ [0] (f) ?_;refine eQ [2] (hr') ?_;refine cQ (q8L _) ?_;refine eQ [2] (q4R c m (by omega)) ?_;trivial
  rw [q3W j];have f:=q3n i u b n w t h j;generalize takeE (tagB i) (b.drop n)=e at*;refine q0b (by simp) ?_;refine rQ fi73 ?_;refine eQ [0] (f) ?_;exact ⟨λ_=>trivial,λq=>absurd (by omega) j⟩
theorem j8A(i:Nat)(u:i<=30)(b:List UInt8)(n:Nat)(w:n<=b.length)(t:b.length<=1099511627776):EffX Tryz.prog 132 [.agg [.ptr 0 0],rI i,.fn 72 [] []] b n (moR (λv:Prin=>.agg (PrinT.cells v)) (zPrin)) (mayP i nameP (b.drop n)):=by
 cases h:nextB i (b.drop n) with
 |false=>rw [q2X h];have f:=q3p i u b n w h;refine q0b (by simp) ?_;refine rQ fi132 ?_;refine eQ [0] (f) ?_;try rfl
 |true=>
  rw [q2Q h];by_cases j:takeE (tagB i) (b.drop n)=0
  . have f:=q3l i u b n w t h j;have z:=q1K (n:=n) t;rw [q3o j];generalize takeC (b.drop n)=c at*;generalize takeN (b.drop n)=N at*;have o:=j7k c z;cases s:nameP c with
    |error e=>rw [s] at o;have y:e≠0:=(j3e) _ _ s;have hr':=q4f o rfl;refine q0b (by simp) ?_;refine rQ fi132 ?_;refine eQ [0] (f) ?_;refine eQ [3] (hr') ?_;refine effP [] (z0N ([],⟨#[]⟩) e y) ?_;trivial
    |ok x=>
     obtain ⟨v,m⟩:=x;rw [s] at o;have hr':=q4j o rfl;rw [Ag] at hr';have hm:=(z6I) _ _ _ s;simp only [closeP];by_cases a:m<c.length
     . rw [if_pos a];refine q0b (by simp) ?_;refine rQ fi132 ?_;refine eQ [0] (f) ?_;refine eQ [3] (hr') ?_;refine cQ (q9H _) ?_;refine effP [3] (q5s c m a) ?_;try rfl
     rw [if_neg a];refine q0b (by simp) ?_;refine rQ fi132 ?_;refine eQ [0] (f) ?_;refine eQ [3] (hr') ?_;refine cQ (q9H _) ?_;refine eQ [3] (q4R c m (by omega)) ?_;trivial
  rw [q3W j];have f:=q3n i u b n w t h j;generalize takeE (tagB i) (b.drop n)=e at*;refine q0b (by simp) ?_;refine rQ fi132 ?_;refine eQ [0] (f) ?_;exact ⟨λ_=>trivial,λq=>absurd (by omega) j⟩
theorem j8X(i:Nat)(u:i<=30)(b:List UInt8)(n:Nat)(w:n<=b.length)(t:b.length<=1099511627776):EffX Tryz.prog 76 [.agg [.ptr 0 0],rI i,.fn 77 [] []] b n (moR (λv:Key=>.agg (KeyT.cells v)) (zKey)) (mayP i keyP (b.drop n)):=by
 cases h:nextB i (b.drop n) with
 |false=>rw [q2X h];have f:=q3p i u b n w h;refine q0b (by simp) ?_;refine rQ fi76 ?_;refine eQ [0] (f) ?_;try rfl
 |true=>
  rw [q2Q h];by_cases j:takeE (tagB i) (b.drop n)=0
  . have f:=q3l i u b n w t h j;have z:=q1K (n:=n) t;rw [q3o j];generalize takeC (b.drop n)=c at*;generalize takeN (b.drop n)=N at*;have o:=k0L c z;cases s:keyP c with
    |error e=>rw [s] at o;have y:e≠0:=(j8z) _ _ s;have hr':=q4f o rfl;refine q0b (by simp) ?_;refine rQ fi76 ?_;refine eQ [0] (f) ?_;refine eQ [3] (hr') ?_;refine effP [] (z1S nKey e y) ?_;trivial
    |ok x=>
     obtain ⟨v,m⟩:=x;rw [s] at o;have hr':=q4j o rfl;rw [Ag] at hr';have hm:=(q5M) _ _ _ s;simp only [closeP];by_cases a:m<c.length
     . rw [if_pos a];refine q0b (by simp) ?_;refine rQ fi76 ?_;refine eQ [0] (f) ?_;refine eQ [3] (hr') ?_;refine cQ (z3c _) ?_;refine effP [3] (q5s c m a) ?_;try rfl
     rw [if_neg a];refine q0b (by simp) ?_;refine rQ fi76 ?_;refine eQ [0] (f) ?_;refine eQ [3] (hr') ?_;refine cQ (z3c _) ?_;refine eQ [3] (q4R c m (by omega)) ?_;trivial
  rw [q3W j];have f:=q3n i u b n w t h j;generalize takeE (tagB i) (b.drop n)=e at*;refine q0b (by simp) ?_;refine rQ fi76 ?_;refine eQ [0] (f) ?_;exact ⟨λ_=>trivial,λq=>absurd (by omega) j⟩
theorem j6k(i:Nat)(u:i<=30)(b:List UInt8)(n:Nat)(w:n<=b.length)(t:b.length<=1099511627776):EffX Tryz.prog 78 [.agg [.ptr 0 0],rI i,.fn 79 [] []] b n (moR (λv:List Pre=>.isl PreT v) (zDat)) (mayP i dataP (b.drop n)):=by
 cases h:nextB i (b.drop n) with
 |false=>rw [q2X h];have f:=q3p i u b n w h;refine q0b (by simp) ?_;refine rQ fi78 ?_;refine eQ [0] (f) ?_;try rfl
 |true=>
  rw [q2Q h];by_cases j:takeE (tagB i) (b.drop n)=0
  . have f:=q3l i u b n w t h j;have z:=q1K (n:=n) t;rw [q3o j];generalize takeC (b.drop n)=c at*;generalize takeN (b.drop n)=N at*;have o:=j8C c z;cases s:dataP c with
    |error e=>rw [s] at o;have y:e≠0:=(j2j) _ _ s;have hr':=q4f o rfl;refine q0b (by simp) ?_;refine rQ fi78 ?_;refine eQ [0] (f) ?_;refine eQ [2] (hr') ?_;refine effP [] (z1b [] e y) ?_;trivial
    |ok x=>
     obtain ⟨v,m⟩:=x;rw [s] at o;have hr':=q4j o rfl;rw [Ag] at hr';have hm:=(q5M) _ _ _ s;simp only [closeP];by_cases a:m<c.length
     . rw [if_pos a];refine q0b (by simp) ?_;refine rQ fi78 ?_;refine eQ [0] (f) ?_;refine eQ [2] (hr') ?_;refine cQ (q9G _) ?_;refine effP [2] (q5s c m a) ?_;try rfl
     rw [if_neg a];refine q0b (by simp) ?_;refine rQ fi78 ?_;refine eQ [0] (f) ?_;refine eQ [2] (hr') ?_;refine cQ (q9G _) ?_;refine eQ [2] (q4R c m (by omega)) ?_;trivial
  rw [q3W j];have f:=q3n i u b n w t h j;generalize takeE (tagB i) (b.drop n)=e at*;refine q0b (by simp) ?_;refine rQ fi78 ?_;refine eQ [0] (f) ?_;exact ⟨λ_=>trivial,λq=>absurd (by omega) j⟩
def z3O(i:Nat)(m:i<=30)(b:List UInt8)(n:Nat)(o:n<=b.length)(j:b.length<=1099511627776):EffY Tryz.prog 69 [.agg [.ptr 0 0],rI i,.fn 70 [] []] b n (λv=>rI v) (needP i intP (b.drop n)):=by
 have c:=k0G i m b n o j;cases h:nextB i (b.drop n) with
 |false=>rw [q2r h];have ho':=q1d c (q2X h);refine ⟨6,?_⟩;refine q0b (by simp) ?_;refine rQ fi69 ?_;refine eQ [0] (ho') ?_;refine effP [0] (q5Z b (n+0)) ?_;try rfl
 |true=>
  rw [q2v h];have a:=q2Q (p:=intP) h;cases f:inP (tagB i) intP (b.drop n) with
  |error e=>rw [f] at a;have ho':=q2A c a;refine ⟨e,?_⟩;refine q0b (by simp) ?_;refine rQ fi69 ?_;refine effP [0] (ho') ?_;trivial
  |ok x=>obtain ⟨v,k⟩:=x;rw [f] at a;have ho':=q1d c a;refine q0b (by simp) ?_;refine rQ fi69 ?_;refine eQ [0] (ho') ?_;refine eQ [0] (q3V b (n+k)) ?_;trivial
def j2s(i:Nat)(m:i<=30)(b:List UInt8)(n:Nat)(o:n<=b.length)(j:b.length<=1099511627776):EffY Tryz.prog 69 [.agg [.ptr 0 0],rI i,.fn 75 [] []] b n (λv=>rI (v:Nat)) (needP i timeP (b.drop n)):=by
 have c:=j5S i m b n o j;cases h:nextB i (b.drop n) with
 |false=>rw [q2r h];have ho':=q1d c (q2X h);refine ⟨6,?_⟩;refine q0b (by simp) ?_;refine rQ fi69 ?_;refine eQ [0] (ho') ?_;refine effP [0] (q5Z b (n+0)) ?_;try rfl
 |true=>
  rw [q2v h];have a:=q2Q (p:=timeP) h;cases f:inP (tagB i) timeP (b.drop n) with
  |error e=>rw [f] at a;have ho':=q2A c a;refine ⟨e,?_⟩;refine q0b (by simp) ?_;refine rQ fi69 ?_;refine effP [0] (ho') ?_;trivial
  |ok x=>obtain ⟨v,k⟩:=x;rw [f] at a;have ho':=q1d c a;refine q0b (by simp) ?_;refine rQ fi69 ?_;refine eQ [0] (ho') ?_;refine eQ [0] (q3V b (n+k)) ?_;trivial
def j2M(i:Nat)(m:i<=30)(b:List UInt8)(n:Nat)(o:n<=b.length)(j:b.length<=1099511627776):EffY Tryz.prog 71 [.agg [.ptr 0 0],rI i,.fn 72 [] []] b n (λv=>.agg (PrinT.cells v)) (needP i nameP (b.drop n)):=by
 have c:=j8A i m b n o j;cases h:nextB i (b.drop n) with
 |false=>rw [q2r h];have ho':=q1d c (q2X h);refine ⟨6,?_⟩;refine q0b (by simp) ?_;refine rQ fi71 ?_;refine eQ [0] (ho') ?_;refine effP [0] (q5Z b (n+0)) ?_;try rfl
 |true=>
  rw [q2v h];have a:=q2Q (p:=nameP) h;cases f:inP (tagB i) nameP (b.drop n) with
  |error e=>rw [f] at a;have ho':=q2A c a;refine ⟨e,?_⟩;refine q0b (by simp) ?_;refine rQ fi71 ?_;refine effP [0] (ho') ?_;trivial
  |ok x=>obtain ⟨v,k⟩:=x;rw [f] at a;have ho':=q1d c a;refine q0b (by simp) ?_;refine rQ fi71 ?_;refine eQ [0] (ho') ?_;refine eQ [0] (q3V b (n+k)) ?_;trivial
set_option maxHeartbeats 40000000
abbrev zAut:SV:=.agg [.isl .str [],rS ⟨#[]⟩,.isl .u8 [],rI 0,rI 0,rI 0,rI 0,.isl .u8 [],rI 0,.isl PreT []]
@[go_sem] abbrev zAutC:List SV:=[.raw (.slice none 0 0),rS ⟨#[]⟩,.raw (.slice none 0 0),rI 0,rI 0,rI 0,rI 0,.raw (.slice none 0 0),rI 0,.raw (.slice none 0 0)]
def q1v(e:Int)(c0 c1 c2 c3 n j m c f a y:SV)(G:List SObj)(K:List SObj->Prop)(h:∀G',K (.cells 30 zAutC :: .cells 33 [rI 6] :: G++G')):
 DCall Tryz.prog 62 [.ptr 0 0,.ptr 1 0] (some (errV e)) (.cells 30 [c0,c1,c2,c3,n,j,m,c,f,a] :: .cells 33 [y] :: G) K:=by
 refine recE mixed fi62 ?_;simpa using h []
def j7s(H:List SObj)(K:List SObj->Prop)(h:∀G,K (H++G)):DCall Tryz.prog 62 [.ptr 0 0,.ptr 1 0] none H K:=by refine recE mixed fi62 ?_;simpa using h []
def optQ(i:Nat)(p:PR α)(d:α)(fit:α->Bool):PR α:=λr=>match mayP i p r with
 |.ok (some v,k)=>if fit v then .ok (v,k) else .error 6
 |.ok (none,k)=>.ok (d,k)
 |.error e=>.error e
variable {d:α}{fit:α->Bool}{k:Nat}
theorem q6y{v:α}(h:optQ i p d fit r= .ok (v,k)):(mayP i p r= .ok (some v,k)/\fit v=true)\/(mayP i p r= .ok (none,k)/\v=d):=by
 unfold optQ at h;split at h
 . split at h
   . cases h;exact .inl ⟨by assumption,by assumption⟩
   cases h
 . cases h;exact .inr ⟨by assumption,rfl⟩
 cases h
theorem z3U{e:Nat}(h:optQ i p d fit r= .error e):(∃e',mayP i p r= .error e')\/∃v k,mayP i p r= .ok (some v,k)/\fit v=false:=by
 unfold optQ at h;split at h
 . split at h
   . cases h
   rename_i a c;exact .inr ⟨_,_,a,by simpa using c⟩
 . cases h
 exact .inl ⟨_,by assumption⟩
def z8F:FitsP (mayP i p):=λr v k h=>by
 cases c:nextB i r with
 |false=>rw [q2X c] at h;cases h;exact Aj _
 |true=>
  rw [q2Q c] at h;cases a:inP (tagB i) p r with
  |error e=>rw [a] at h;cases h
  |ok x=>obtain ⟨u,m⟩:=x;rw [a] at h;cases h;exact q5M r _ _ a
def q8V:FitsP (optQ i p d fit):=λr v k h=>by rcases q6y h with ⟨a,_⟩ | ⟨a,_⟩ <;>exact z8F r _ k a
variable {v:Int}
def q7V:needP i (cstP v) r=match needP i intP r with
 |.ok (w,k)=>if w=v then .ok ((),k) else .error 6
 |.error e=>.error e:=by
 cases h:nextB i r with
 |false=>rw [q2r h,q2r h]
 |true=>
  rw [q2v h,q2v h];by_cases c:takeE (tagB i) r=0
  . rw [q3o c,q3o c];unfold cstP;cases hx:intP (takeC r) with
    |error e=>rfl
    |ok y=>
     obtain ⟨w,k⟩:=y;simp only;by_cases f:w=v
     . rw [if_pos f];simp only [closeP];by_cases a:k< (takeC r).length
       . rw [if_pos a,if_pos a]
       rw [if_neg a,if_neg a];simp only;rw [if_pos f]
     rw [if_neg f];simp only [closeP];by_cases a:k< (takeC r).length
     . rw [if_pos a]
     rw [if_neg a];simp only;rw [if_neg f]
  rw [q3W c,q3W c]
def z4z{Q:α->Prop}(j:Q d)(o:OkP p Q):OkP (optQ i p d fit) Q:=λr v m q h=>by
 rcases q6y h with ⟨a,_⟩ | ⟨_,rfl⟩
 . cases f:nextB i r with
   |false=>rw [q2X f] at a;cases a
   |true=>
    rw [q2Q f] at a;cases c:inP (tagB i) p r with
    |error e=>rw [c] at a;cases a
    |ok x=>obtain ⟨u,n⟩:=x;rw [c] at a;cases a;exact z3d o r _ _ q c
 exact j
def j4h:OkP datP PreT.ok:=z3d (q5T (Q1:=λ_=>True) z1x λ_ _=>q5T (q5B z4G) λ_ hc=>z9J ⟨trivial,hc⟩)
def z8K:OkP dataP (Ty.slice PreT).ok:=k0Z (t:=PreT) 16 (by omega) j4h
def autIn:PR Aut:=bindP (needP 0 (cstP 5)) λ_=>bindP (needP 1 nameP) λc=>bindP (optQ 2 octP [] λs=>decide (0< (s.length:Int))) λs=>bindP (needP 3 intP) λm=>bindP (needP 4 timeP) λt=>bindP (optQ 5 keyP nKey λk=> !decide (k.1=0)) λk=>bindP (needP 6 intP) λq=>bindP (optQ 7 dataP [] λd=>decide (0< (d.length:Int))) λd=>retP ((c,s,(t:Int),m,k,q,d):Aut)
def autP:PR Aut:=inP (appB 2) (inP 48 autIn)
def autD(b:List UInt8):Option Aut:=match allP autP b with
 |.ok a=>if vAut a=true then some a else none
 |.error _=>none
def autDS(x:Option Aut):SV:=match x with
 |some a=>.tup [.agg (AutT.cells a),rI 0]
 |none=>.tup [zAut,rI 6]
def finA(c:List UInt8):Except Nat (Aut×Nat)->Option Aut
 |.ok (a,m)=>if m<c.length then none else if vAut a=true then some a else none
 |.error _=>none
variable {b:List UInt8}
def j6G(h:takeE (appB 2) b=0)(f:takeE 48 (takeC b)=0)(n:¬takeN b<b.length)(j:¬takeN (takeC b) < (takeC b).length):autD b=finA (takeC (takeC b)) (autIn (takeC (takeC b))):=by
 unfold autD allP autP;rw [q3o h,q3o f];cases autIn (takeC (takeC b)) with
 |error e=>rfl
 |ok x=>
  obtain ⟨a,m⟩:=x;simp only [closeP,finA];by_cases c:m< (takeC (takeC b)).length
  . rw [if_pos c,if_pos c]
  rw [if_neg c,if_neg c];simp only [];rw [if_neg j];simp only [];rw [if_neg n]
def j1Q(n:takeE (appB 2) b=0)(j:takeE 48 (takeC b)=0)(h:takeN b<b.length\/takeN (takeC b) < (takeC b).length):autD b=none:=by
 unfold autD allP autP;rw [q3o n,q3o j];cases autIn (takeC (takeC b)) with
 |error e=>rfl
 |ok x=>
  obtain ⟨a,m⟩:=x;simp only [closeP];by_cases f:m< (takeC (takeC b)).length
  . rw [if_pos f]
  rw [if_neg f];simp only [];by_cases c:takeN (takeC b) < (takeC b).length
  . rw [if_pos c]
  rw [if_neg c];simp only [];rw [if_pos (h.resolve_right c)]
theorem q8a(x:Option Aut):(autDS x).clean=true:=by cases x<;>rfl
theorem q1b:autDS none= .tup [zAut,rI 6]:=rfl
theorem z6v(a:Aut):autDS (some a)= .tup [.agg (AutT.cells a),rI 0]:=rfl
theorem q7M(b:List UInt8)(hb:b.length<=1099511627776):PC Tryz.prog 15 [.isl .u8 b] (autDS (autD b)):=by
 have q:=k0Y b (by omega);by_cases F:takeE (appB 2) b=0;rotate_left
 . have t:=j6f 2 (by decide) b 0 (Aj _) hb F;rw [Ap] at t;have hd:autD b=none:=by unfold autD allP autP;rw [q3W F]
   rw [hd,q1b];refine q0g rfl rfl ?_;refine defE mixed fi15 ?_;refine gQ ?_;refine eQ [] (q) ?_;refine eQ [2] (t) ?_;refine effP [] (q6U _ F) ?_;refine ⟨by simp,q1v _ _ _ _ _ _ _ _ _ _ _ _ _ _ λG=> ?_⟩;with_reducible refine sxE ?_;trivial
 have t:=j7Q 2 (by decide) b 0 (Aj _) hb F;rw [Ap,Ag] at t;have D:=q1K (n:=0) hb;have aa:=q2C F;rw [Ap] at D;by_cases I:takeE 48 (takeC b)=0;rotate_left
 . have w:=q6L (takeC b) 0 (Aj _) D I;rw [Ap] at w;have hd:autD b=none:=by unfold autD allP autP;rw [q3o F,q3W I];rfl
   rw [hd,q1b];refine q0g rfl rfl ?_;refine defE mixed fi15 ?_;refine gQ ?_;refine eQ [] (q) ?_;refine eQ [2] (t) ?_;refine eQ [4] (q2S (takeC b) 0) ?_;refine eQ [4] (w) ?_;refine effP [] (q6U _ I) ?_;refine ⟨by simp,q1v _ _ _ _ _ _ _ _ _ _ _ _ _ _ λG=> ?_⟩;with_reducible refine sxE ?_;trivial
 have w:=q6p (takeC b) 0 (Aj _) D I;rw [Ap,Ag] at w;have u:=q1K (n:=0) D;have ab:=q2C I;rw [Ap] at u;have Y:=j6G F I;have L:=j1Q F I;generalize takeC (takeC b)=c at*;generalize takeC b=c1 at*;generalize takeN c1=N2 at*;generalize takeN b=N1 at*;by_cases h2:N2<c1.length
 . rw [L (.inr h2),q1b];refine q0g rfl rfl ?_;refine defE mixed fi15 ?_;refine gQ ?_;refine eQ [] (q) ?_;refine eQ [2] (t) ?_;refine eQ [4] (q2S c1 0) ?_;refine eQ [4] (w) ?_;refine eQ [6] (q2S c 0) ?_;refine effP [4] (q5s c1 N2 h2) ?_;refine ⟨by simp,q1v _ _ _ _ _ _ _ _ _ _ _ _ _ _ λG=> ?_⟩;with_reducible refine sxE ?_;trivial
 by_cases h1:N1<b.length
 . rw [L (.inl h1),q1b];refine q0g rfl rfl ?_;refine defE mixed fi15 ?_;refine gQ ?_;refine eQ [] (q) ?_;refine eQ [2] (t) ?_;refine eQ [4] (q2S c1 0) ?_;refine eQ [4] (w) ?_;refine eQ [6] (q2S c 0) ?_;refine eQ [4] (q4R c1 N2 (by omega)) ?_;refine effP [2] (q5s b N1 h1) ?_;refine ⟨by simp,q1v _ _ _ _ _ _ _ _ _ _ _ _ _ _ λG=> ?_⟩;with_reducible refine sxE ?_;trivial
 rw [Y h1 h2];clear Y L;have A:=q4R c1 N2 (by omega);have B:=q4R b N1 (by omega);clear aa ab h1 h2 hb D;refine q0g rfl (q8a _) ?_;refine defE mixed fi15 ?_;refine gQ ?_;refine eQ [] (q) ?_;refine eQ [2] (t) ?_;refine eQ [4] (q2S c1 0) ?_;refine eQ [4] (w) ?_;refine eQ [6] (q2S c 0) ?_;refine eQ [4] (A) ?_;refine q0j [2] B rfl (by decide) (by repeat first|exact trivial|exact rfl|refine And.intro ?_ ?_) rfl rfl ?_;simp only [afterO,Out.ren,SV.ren,mgA,sig,SObj.ren,SV.renL,List.set,List.map,Ac];refine uQ 2 _ ?_;with_reducible refine sxE ?_
 clear q t w B A F I;refine z4y [7] mixed ?_;refine gQ ?_;have y0:=z3O 0 (by decide) c 0 (Aj _) u;rw [Ap] at y0;cases K:needP 0 intP c with
 |error e=>
  obtain ⟨N,y0'⟩:=q8H y0 K;have H:needP 0 (cstP 5) c= .error e:=by rw [q7V,K]
  rw [show autIn c= .error e from q1f H];simp only [shiftP,finA];rw [q1b];refine q0t [6] (y0') rfl (by decide) ⟨rfl,rfl,trivial⟩ rfl rfl ?_ ?_
  . simp (maxSteps:=3000000) only [mgA,sig,q0y,q0E,SObj.ren,SV.ren,SV.renL,go_sem,↓zA,↓reduceIte,↓reduceDIte] <;>try simp only [zB]
  refine rnE ?_;refine z5x ?_;with_reducible refine sxE ?_
  refine ⟨by simp,q1v _ _ _ _ _ _ _ _ _ _ _ _ _ _ λG=> ?_⟩;with_reducible refine sxE ?_;trivial
 |ok x=>
 obtain ⟨v0,k0⟩:=x;have y0':=q8T y0 K;rw [Ag] at y0';have f0:=q0X _ _ _ K;by_cases Z:v0=5;rotate_left
 . have H:needP 0 (cstP 5) c= .error 6:=by rw [q7V,K];simp only;rw [if_neg Z]
   rw [show autIn c= .error 6 from q1f H];simp only [shiftP,finA];rw [q1b];refine q0t [6] (y0') rfl (by decide) ⟨rfl,rfl,trivial⟩ rfl rfl ?_ ?_
   . simp (maxSteps:=3000000) only [mgA,sig,q0y,q0E,SObj.ren,SV.ren,SV.renL,go_sem,↓zA,↓reduceIte,↓reduceDIte] <;>try simp only [zB]
   refine rnE ?_;refine gQ ?_;rw [decide_eq_false Z];refine q0t [6] (q5Z c k0) rfl (by decide) ⟨rfl,rfl,trivial⟩ rfl rfl ?_ ?_
   . simp (maxSteps:=3000000) only [mgA,sig,q0y,q0E,SObj.ren,SV.ren,SV.renL,go_sem,↓zA,↓reduceIte,↓reduceDIte] <;>try simp only [zB]
   refine rnE ?_;refine z5x ?_;with_reducible refine sxE ?_
   refine ⟨by simp,q1v _ _ _ _ _ _ _ _ _ _ _ _ _ _ λG=> ?_⟩;with_reducible refine sxE ?_;trivial
 have H:needP 0 (cstP 5) c= .ok ((),k0):=by rw [q7V,K];simp only;rw [if_pos Z]
 rw [show autIn c=_ from q7x H];refine q0t [6] (y0') rfl (by decide) ⟨rfl,rfl,trivial⟩ rfl rfl ?_ ?_
 . simp (maxSteps:=3000000) only [mgA,sig,q0y,q0E,SObj.ren,SV.ren,SV.renL,go_sem,↓zA,↓reduceIte,↓reduceDIte] <;>try simp only [zB]
 refine rnE ?_;refine gQ ?_;rw [decide_eq_true Z];refine q0t [6] (q3V c k0) rfl (by decide) ⟨rfl,rfl,trivial⟩ rfl rfl ?_ ?_
 . simp (maxSteps:=3000000) only [mgA,sig,q0y,q0E,SObj.ren,SV.ren,SV.renL,go_sem,↓zA,↓reduceIte,↓reduceDIte] <;>try simp only [zB]
 refine rnE ?_;refine gQ ?_;refine j0N ?_;refine gQ ?_;clear y0 y0' K H Z

 have y1:=j2M 1 (by decide) c k0 f0 u;cases O:needP 1 nameP (c.drop k0) with
 |error e=>obtain ⟨N,y'⟩:=q8H y1 O;rw [q1f O];simp only [shiftP,finA];rw [q1b];refine effP [6] (y') ?_;refine ⟨by simp,q1v _ _ _ _ _ _ _ _ _ _ _ _ _ _ λG=> ?_⟩;with_reducible refine sxE ?_;trivial
 |ok x=>
 obtain ⟨v1,f⟩:=x;have y':=q8T y1 O;rw [q1R O];have f1:=q2U q0X f0 O;have q1:=q5B j2L _ _ _ (by rw [Ah];omega) O;refine eQ [6] (y') ?_;clear y1 y' O;have y2:=j9J 2 (by decide) c (k0+f) f1 u;cases U:optQ 2 octP [] (λs=>decide (0< (s.length:Int))) (c.drop (k0+f)) with
 |error e=>
  rw [q1f U];simp only [shiftP,finA];rw [q1b];rcases z3U U with ⟨N,a⟩ | ⟨v,k,a,C⟩
  . have y':=q2A y2 a;refine effP [6] (y') ?_;refine ⟨by simp,q1v _ _ _ _ _ _ _ _ _ _ _ _ _ _ λG=> ?_⟩;with_reducible refine sxE ?_;trivial
  have y':=q1d y2 a;simp only [moR] at y';refine eQ [6] (y') ?_;rw [show decide (0< (v.length:Int))=false from C];refine effP [6] (q5Z c ((k0+f)+k)) ?_;refine ⟨by simp,q1v _ _ _ _ _ _ _ _ _ _ _ _ _ _ λG=> ?_⟩;with_reducible refine sxE ?_;trivial
 |ok x=>
 obtain ⟨v2,j⟩:=x;rw [q1R U];have f2:=q2U q8V f1 U;have q2:=z4z (Q:=(Ty.slice .u8).ok) ⟨Aj _,λ_ h=>by cases h⟩ z4G _ _ _ (by rw [Ah];omega) U;apply z0G (q6y U)
 . intro a tail;obtain ⟨a,C⟩:=a;have y':=q1d y2 a;simp only [moR] at y';refine eQ [6] (y') ?_;rw [show decide (0< (v2.length:Int))=true from C];refine q0j [6] (q3V c ((k0+f)+j)) rfl (by decide) (by repeat first|exact trivial|exact rfl|refine And.intro ?_ ?_) rfl rfl ?_;simp only [afterO,Out.ren,SV.ren,mgA,sig,SObj.ren,SV.renL,List.set,List.map,Ac];refine q3v [7,38,39,40,41,42,43,44,45,46,47,48,49,50,51,52,53] rfl ?_;simp only [maskT,putT,AV,B4,Bi,Bc];exact tail
 . intro a tail;obtain ⟨a,X⟩:=a;have y':PE Tryz.prog 73 [.agg [.ptr 0 0],rI ((2:Nat):Int),.fn 74 [] []] [rdr c (k0+f)] (.ret (.tup [.isl .u8 v2,rB false])) [rdr c ((k0+f)+j)]:=by have q':=q1d y2 a;simp only [moR] at q';rw [X];exact q'
   refine eQ [6] (y') ?_;refine q0j [6] (q3V c ((k0+f)+j)) rfl (by decide) (by repeat first|exact trivial|exact rfl|refine And.intro ?_ ?_) rfl rfl ?_;simp only [afterO,Out.ren,SV.ren,mgA,sig,SObj.ren,SV.renL,List.set,List.map,Ac];refine q3v [7,38,39,40,41,42,43,44,45,46,47,48,49,50,51,52,53] rfl ?_;simp only [maskT,putT,AV,B4,Bi,Bc];exact tail
 refine gQ ?_;have y3:=z3O 3 (by decide) c (k0+f+j) f2 u;cases R:needP 3 intP (c.drop (k0+f+j)) with
 |error e=>obtain ⟨N,y'⟩:=q8H y3 R;rw [q1f R];simp only [shiftP,finA];rw [q1b];refine effP [6] (y') ?_;refine ⟨by simp,q1v _ _ _ _ _ _ _ _ _ _ _ _ _ _ λG=> ?_⟩;with_reducible refine sxE ?_;trivial
 |ok x=>
 obtain ⟨v3,m⟩:=x;have y':=q8T y3 R;rw [q1R R];have f3:=q2U q0X f2 R;refine eQ [6] (y') ?_;clear y3 y' R;have y4:=j2s 4 (by decide) c (k0+f+j+m) f3 u;cases P:needP 4 timeP (c.drop (k0+f+j+m)) with
 |error e=>obtain ⟨N,y'⟩:=q8H y4 P;rw [q1f P];simp only [shiftP,finA];rw [q1b];refine effP [6] (y') ?_;refine ⟨by simp,q1v _ _ _ _ _ _ _ _ _ _ _ _ _ _ λG=> ?_⟩;with_reducible refine sxE ?_;trivial
 |ok x=>
 obtain ⟨v4,o⟩:=x;have y':=q8T y4 P;rw [q1R P];have f4:=q2U q0X f3 P;refine eQ [6] (y') ?_;clear y4 y' P;have y5:=j8X 5 (by decide) c (k0+f+j+m+o) f4 u;cases V:optQ 5 keyP nKey (λk=> !decide (k.1=0)) (c.drop (k0+f+j+m+o)) with
 |error e=>
  rw [q1f V];simp only [shiftP,finA];rw [q1b];rcases z3U V with ⟨N,a⟩ | ⟨v,k,a,C⟩
  . have y':=q2A y5 a;refine effP [6] (y') ?_;refine ⟨by simp,q1v _ _ _ _ _ _ _ _ _ _ _ _ _ _ λG=> ?_⟩;with_reducible refine sxE ?_;trivial
  have y':=q1d y5 a;simp only [moR] at y';refine eQ [6] (y') ?_;rw [show (!decide (v.1=0))=false from C];refine effP [6] (q5Z c ((k0+f+j+m+o)+k)) ?_;refine ⟨by simp,q1v _ _ _ _ _ _ _ _ _ _ _ _ _ _ λG=> ?_⟩;with_reducible refine sxE ?_;trivial
 |ok x=>
 obtain ⟨v5,y⟩:=x;rw [q1R V];have f5:=q2U q8V f4 V;have q5:=z4z (Q:=KeyT.ok) ⟨trivial,trivial,Aj _,λ_ h=>by cases h⟩ j7D _ _ _ (by rw [Ah];omega) V;apply z0G (q6y V)
 . intro a tail;obtain ⟨a,C⟩:=a;have y':=q1d y5 a;simp only [moR] at y';refine eQ [6] (y') ?_;rw [show (!decide (v5.1=0))=true from C];refine q0j [6] (q3V c ((k0+f+j+m+o)+y)) rfl (by decide) (by repeat first|exact trivial|exact rfl|refine And.intro ?_ ?_) rfl rfl ?_;simp only [afterO,Out.ren,SV.ren,mgA,sig,SObj.ren,SV.renL,List.set,List.map,Ac];refine q3v [7,60,61,62,63,64,65,66,67,68,69,70,71,72,73,74,75] rfl ?_;simp only [maskT,putT,AV,B4,Bi,Bc];exact tail
 . intro a tail;obtain ⟨a,X⟩:=a;have y':PE Tryz.prog 76 [.agg [.ptr 0 0],rI ((5:Nat):Int),.fn 77 [] []] [rdr c (k0+f+j+m+o)] (.ret (.tup [.agg (KeyT.cells v5),rB false])) [rdr c ((k0+f+j+m+o)+y)]:=by have q':=q1d y5 a;simp only [moR] at q';rw [X];exact q'
   refine eQ [6] (y') ?_;refine q0j [6] (q3V c ((k0+f+j+m+o)+y)) rfl (by decide) (by repeat first|exact trivial|exact rfl|refine And.intro ?_ ?_) rfl rfl ?_;simp only [afterO,Out.ren,SV.ren,mgA,sig,SObj.ren,SV.renL,List.set,List.map,Ac];refine q3v [7,60,61,62,63,64,65,66,67,68,69,70,71,72,73,74,75] rfl ?_;simp only [maskT,putT,AV,B4,Bi,Bc];exact tail
 refine gQ ?_;have y6:=z3O 6 (by decide) c (k0+f+j+m+o+y) f5 u;cases W:needP 6 intP (c.drop (k0+f+j+m+o+y)) with
 |error e=>obtain ⟨N,y'⟩:=q8H y6 W;rw [q1f W];simp only [shiftP,finA];rw [q1b];refine effP [6] (y') ?_;refine ⟨by simp,q1v _ _ _ _ _ _ _ _ _ _ _ _ _ _ λG=> ?_⟩;with_reducible refine sxE ?_;trivial
 |ok x=>
 obtain ⟨v6,z⟩:=x;have y':=q8T y6 W;rw [q1R W];have f6:=q2U q0X f5 W;refine eQ [6] (y') ?_;clear y6 y' W;have y7:=j6k 7 (by decide) c (k0+f+j+m+o+y+z) f6 u;cases S:optQ 7 dataP [] (λd=>decide (0< (d.length:Int))) (c.drop (k0+f+j+m+o+y+z)) with
 |error e=>
  rw [q1f S];simp only [shiftP,finA];rw [q1b];rcases z3U S with ⟨N,a⟩ | ⟨v,k,a,C⟩
  . have y':=q2A y7 a;refine effP [6] (y') ?_;refine ⟨by simp,q1v _ _ _ _ _ _ _ _ _ _ _ _ _ _ λG=> ?_⟩;with_reducible refine sxE ?_;trivial
  have y':=q1d y7 a;simp only [moR] at y';refine eQ [6] (y') ?_;rw [show decide (0< (v.length:Int))=false from C];refine effP [6] (q5Z c ((k0+f+j+m+o+y+z)+k)) ?_;refine ⟨by simp,q1v _ _ _ _ _ _ _ _ _ _ _ _ _ _ λG=> ?_⟩;with_reducible refine sxE ?_;trivial
 |ok x=>
 obtain ⟨v7,J⟩:=x;rw [q1R S];have f7:=q2U q8V f6 S;have q7:=z4z (Q:=(Ty.slice PreT).ok) ⟨Aj _,λ_ h=>by cases h⟩ z8K _ _ _ (by rw [Ah];omega) S;apply z0G (q6y S)
 . intro a tail;obtain ⟨a,C⟩:=a;have y':=q1d y7 a;simp only [moR] at y';refine eQ [6] (y') ?_;rw [show decide (0< (v7.length:Int))=true from C];refine q0j [6] (q3V c ((k0+f+j+m+o+y+z)+J)) rfl (by decide) (by repeat first|exact trivial|exact rfl|refine And.intro ?_ ?_) rfl rfl ?_;simp only [afterO,Out.ren,SV.ren,mgA,sig,SObj.ren,SV.renL,List.set,List.map,Ac];refine q3v [7,79,80,81,82,83,84,85,86,87,88,89,90,91,92,93,94] rfl ?_;simp only [maskT,putT,AV,B4,Bi,Bc];exact tail
 . intro a tail;obtain ⟨a,X⟩:=a;have y':PE Tryz.prog 78 [.agg [.ptr 0 0],rI ((7:Nat):Int),.fn 79 [] []] [rdr c (k0+f+j+m+o+y+z)] (.ret (.tup [.isl PreT v7,rB false])) [rdr c ((k0+f+j+m+o+y+z)+J)]:=by have q':=q1d y7 a;simp only [moR] at q';rw [X];exact q'
   refine eQ [6] (y') ?_;refine q0j [6] (q3V c ((k0+f+j+m+o+y+z)+J)) rfl (by decide) (by repeat first|exact trivial|exact rfl|refine And.intro ?_ ?_) rfl rfl ?_;simp only [afterO,Out.ren,SV.ren,mgA,sig,SObj.ren,SV.renL,List.set,List.map,Ac];refine q3v [7,79,80,81,82,83,84,85,86,87,88,89,90,91,92,93,94] rfl ?_;simp only [maskT,putT,AV,B4,Bi,Bc];exact tail
 refine gQ ?_;simp only [shiftP,retP,finA];by_cases a:(k0+f+j+m+o+y+z+J) <c.length
 . rw [if_pos (by omega),q1b];refine effP [6] (q5s c (k0+f+j+m+o+y+z+J) a) ?_;refine ⟨by simp,q1v _ _ _ _ _ _ _ _ _ _ _ _ _ _ λG=> ?_⟩;with_reducible refine sxE ?_;trivial
 rw [if_neg (by omega)];refine q0j [6] (q4R c (k0+f+j+m+o+y+z+J) (by omega)) rfl (by decide) (by repeat first|exact trivial|exact rfl|refine And.intro ?_ ?_) rfl rfl ?_;simp only [afterO,Out.ren,SV.ren,mgA,sig,SObj.ren,SV.renL,List.set,List.map,Ac];have E:=q7p (v1,v2,(v4:Int),v3,v5,v6,v7) ⟨q1,q2,trivial,trivial,q5,trivial,q7⟩;refine uQ 2 _ ?_;with_reducible refine sxE ?_
 refine z4y [7,0] mixed ?_;refine gQ ?_;cases H:vAut (v1,v2,(v4:Int),v3,v5,v6,v7) with
 |false=>
  rw [H] at E;rw [if_neg (by decide),q1b];refine cR E ?_;refine q0t [6] (q5Z c (k0+f+j+m+o+y+z+J)) rfl (by decide) ⟨rfl,rfl,trivial⟩ rfl rfl ?_ ?_
  . simp (maxSteps:=3000000) only [mgA,sig,q0y,q0E,SObj.ren,SV.ren,SV.renL,go_sem,↓zA,↓reduceIte,↓reduceDIte] <;>try simp only [zB]
  refine rnE ?_;refine z5x ?_;with_reducible refine sxE ?_
  refine ⟨by simp,q1v _ _ _ _ _ _ _ _ _ _ _ _ _ _ λG=> ?_⟩;with_reducible refine sxE ?_;trivial
 |true=>
  rw [H] at E;rw [if_pos rfl,z6v];refine cR E ?_;refine q0t [6] (q3V c (k0+f+j+m+o+y+z+J)) rfl (by decide) ⟨rfl,rfl,trivial⟩ rfl rfl ?_ ?_
  . simp (maxSteps:=3000000) only [mgA,sig,q0y,q0E,SObj.ren,SV.ren,SV.renL,go_sem,↓zA,↓reduceIte,↓reduceDIte] <;>try simp only [zB]
  refine rnE ?_;refine gQ ?_;refine j0N ?_;refine gQ ?_;refine j7s _ _ λG=> ?_;with_reducible refine sxE ?_;trivial
def irg18:GI:=⟨33,[.cell 8 44,.tmp 9],[(.reg [o1 4 (.box 27 (.tmp 0)),o1 6 (.box 30 (.tmp 2)),o1 8 (.new 44 [(.int .i64 0),(.int .i64 0),(.slice none 0 0)]),o1 9 (.mov (ci 0))])],[.ic (.reg [o1 10 (.new 44 [(.int .i64 0),(.int .i64 0),(.slice none 0 0)])]),.ic (.reg [o1 14 (.ld (some 10) (.tmp 6)),o1 15 (.call (.func 10) [(.tmp 14)]),mv 13 15,ex 16 0 13,ex 17 1 13,mv 11 16,mv 12 17]),.ic (.reg [mv 18 12,o1 19 (.bin .neq 0 (.tmp 18) (ci 0))]),.gc (.tmp 19),.ic (.reg [o1 21 (.ld (some 3) (.tmp 4)),mv 22 1,mv 23 3,mv 24 11,o1 25 (.call (.func 90) [(.tmp 21),(.tmp 22),(.tmp 23),(.tmp 24)]),mv 20 25,ex 26 0 20,ex 27 1 20,o0 (.st 3 (.tmp 10) (.tmp 26)),mv 12 27]),.ic (.reg [mv 28 12,o1 29 (.bin .neq 0 (.tmp 28) (ci 0))]),.gc (.tmp 29),.ic (.reg [o1 30 (.ld (some 3) (.tmp 10)),o0 (.st 3 (.tmp 8) (.tmp 30)),o1 9 (.mov (ci 0))]),.ic .ret],[(.reg [o1 31 (.bld [(.int .i64 0),(.int .i64 0),(.slice none 0 0)] (.fields [(0,1),(1,1),(2,1)]) []),mv 32 12,o0 (.st 3 (.tmp 8) (.tmp 31)),mv 9 32]),.ret],[.skip,(.reg [o1 31 (.bld [(.int .i64 0),(.int .i64 0),(.slice none 0 0)] (.fields [(0,1),(1,1),(2,1)]) []),mv 32 12,o0 (.st 3 (.tmp 8) (.tmp 31)),mv 9 32]),.ret]⟩
def fig18:ginfo Tryz.prog 18=some irg18:=by kernel_rfl
attribute [go_sem] irg18
def irg20:GI:=⟨30,[.cell 6 30,.tmp 7],[(.reg [o1 3 (.box 27 (.tmp 0)),o1 5 (.box 44 (.tmp 2)),o1 6 (.new 30 [(.slice none 0 0),(.string ⟨#[]⟩),(.slice none 0 0),(.int .i64 0),(.int .i64 0),(.int .i64 0),(.int .i64 0),(.slice none 0 0),(.int .i64 0),(.slice none 0 0)]),o1 7 (.mov (ci 0))])],[.ic (.reg [o1 8 (.new 30 [(.slice none 0 0),(.string ⟨#[]⟩),(.slice none 0 0),(.int .i64 0),(.int .i64 0),(.int .i64 0),(.int .i64 0),(.slice none 0 0),(.int .i64 0),(.slice none 0 0)])]),.ic (.reg [o1 12 (.ld (some 3) (.tmp 3)),mv 13 1,o1 14 (.ld (some 3) (.tmp 5)),o1 15 (.call (.func 92) [(.tmp 12),(.tmp 13),(.tmp 14)]),mv 11 15,ex 16 0 11,ex 17 1 11,mv 9 16,mv 10 17]),.ic (.reg [mv 18 10,o1 19 (.bin .neq 0 (.tmp 18) (ci 0))]),.gc (.tmp 19),.ic (.reg [mv 21 9,o1 22 (.call (.func 15) [(.tmp 21)]),mv 20 22,ex 23 0 20,ex 24 1 20,o0 (.st 10 (.tmp 8) (.tmp 23)),mv 10 24]),.ic (.reg [mv 25 10,o1 26 (.bin .neq 0 (.tmp 25) (ci 0))]),.gc (.tmp 26),.ic (.reg [o1 27 (.ld (some 10) (.tmp 8)),o0 (.st 10 (.tmp 6) (.tmp 27)),o1 7 (.mov (ci 0))]),.ic .ret],[(.reg [o1 28 (.bld [(.slice none 0 0),(.string ⟨#[]⟩),(.slice none 0 0),(.int .i64 0),(.int .i64 0),(.int .i64 0),(.int .i64 0),(.slice none 0 0),(.int .i64 0),(.slice none 0 0)] (.fields [(0,2),(2,1),(3,1),(4,1),(5,3),(8,1),(9,1)]) []),mv 29 10,o0 (.st 10 (.tmp 6) (.tmp 28)),mv 7 29]),.ret],[.skip,(.reg [o1 28 (.bld [(.slice none 0 0),(.string ⟨#[]⟩),(.slice none 0 0),(.int .i64 0),(.int .i64 0),(.int .i64 0),(.int .i64 0),(.slice none 0 0),(.int .i64 0),(.slice none 0 0)] (.fields [(0,2),(2,1),(3,1),(4,1),(5,3),(8,1),(9,1)]) []),mv 29 10,o0 (.st 10 (.tmp 6) (.tmp 28)),mv 7 29]),.ret]⟩
def fig20:ginfo Tryz.prog 20=some irg20:=by kernel_rfl
attribute [go_sem] irg20
def j6T(k:Key)(a:Aut)(B:AutT.ok a)(u:Int)(f:List UInt8)(o w:Int)(y:List UInt8)(e:Int)(hs:vAut a=true->PC Tryz.prog 90 [.agg (KeyT.cells k),rI u,.isl .u8 f,.isl .u8 (autS a)] (.tup [.agg [rI o,rI w,.isl .u8 y],rI e])):
 PC Tryz.prog 18 [.agg (KeyT.cells k),rI u,.agg (AutT.cells a),.isl .u8 f] (if vAut a=true then if e=0 then .tup [.agg [rI o,rI w,.isl .u8 y],rI 0] else .tup [.agg [rI 0,rI 0,.isl .u8 []],rI e] else .tup [.agg [rI 0,rI 0,.isl .u8 []],rI 2]):=by
 have c1:=q8E a B;cases n:vAut a with
 |false=>
  rw [n] at c1;simp only [if_false,A3,if_true] at c1⊢;obtain ⟨z,A,C⟩:=k;obtain ⟨c,s,t,m,x,q,d⟩:=a;refine q0g rfl rfl ?_;refine z6V fig18 (q0p mixed 600 _ ?_);simp (maxSteps:=3000000) only [irg18,go_sem,↓zA,↓reduceIte,↓reduceDIte] <;>try simp only [zB]
  simp only [GoI];refine gQ ?_;refine gQ ?_;refine cQ c1 ?_;refine gQ ?_;refine gQ ?_;trivial
 |true=>
  rw [n] at c1;simp only [if_true,reduceIte] at c1⊢;replace hs:=hs n;obtain ⟨z,A,C⟩:=k;obtain ⟨c,s,t,m,x,q,d⟩:=a;by_cases j:e=0
  . subst j;simp only [if_true,reduceIte];refine q0g rfl rfl ?_;refine z6V fig18 (q0p mixed 600 _ ?_);simp (maxSteps:=3000000) only [irg18,go_sem,↓zA,↓reduceIte,↓reduceDIte] <;>try simp only [zB]
    simp only [GoI];refine gQ ?_;refine gQ ?_;refine cQ c1 ?_;refine gQ ?_;refine gQ ?_;refine cQ hs ?_;refine gQ ?_;refine gQ ?_;refine gQ ?_;trivial
  rw [if_neg j];refine q0g rfl rfl ?_;refine z6V fig18 (q0p mixed 600 _ ?_);simp (maxSteps:=3000000) only [irg18,go_sem,↓zA,↓reduceIte,↓reduceDIte] <;>try simp only [zB]
  simp only [GoI];refine gQ ?_;refine gQ ?_;refine cQ c1 ?_;refine gQ ?_;refine gQ ?_;refine cQ hs ?_;refine gQ ?_;refine ⟨λ_=> ?_,λh=>absurd h j⟩;refine gQ ?_;trivial
def j8S(k:Key)(u:Int)(a c:Int)(f:List UInt8)(e:Int)(j:e≠0)(m:List UInt8)(n:PC Tryz.prog 92 [.agg (KeyT.cells k),rI u,.agg [rI a,rI c,.isl .u8 f]] (.tup [.isl .u8 m,rI e])):
 PC Tryz.prog 20 [.agg (KeyT.cells k),rI u,.agg [rI a,rI c,.isl .u8 f]] (.tup [zAut,rI e]):=by
 obtain ⟨k1,k2,k3⟩:=k;unfold zAut;refine q0g rfl rfl ?_;refine z6V fig20 (q0p mixed 600 _ ?_);simp (maxSteps:=3000000) only [irg20,go_sem,↓zA,↓reduceIte,↓reduceDIte] <;>try simp only [zB]
 simp only [GoI];refine gQ ?_;refine gQ ?_;refine cQ n ?_;refine gQ ?_;refine ⟨λ_=> ?_,λh=>absurd h j⟩;refine gQ ?_;trivial
def j8l(k:Key)(u:Int)(h j:Int)(n:List UInt8)(f:List UInt8)(y:f.length<=1099511627776)(o:PC Tryz.prog 92 [.agg (KeyT.cells k),rI u,.agg [rI h,rI j,.isl .u8 n]] (.tup [.isl .u8 f,rI 0])):
 PC Tryz.prog 20 [.agg (KeyT.cells k),rI u,.agg [rI h,rI j,.isl .u8 n]] (autDS (autD f)):=by
 have e:=q7M f y;obtain ⟨k1,k2,k3⟩:=k;cases w:autD f with
 |some a=>
  rw [w] at e;obtain ⟨c,s,t,m,x,q,d⟩:=a;unfold autDS at e⊢;refine q0g rfl rfl ?_;refine z6V fig20 (q0p mixed 600 _ ?_);simp (maxSteps:=3000000) only [irg20,go_sem,↓zA,↓reduceIte,↓reduceDIte] <;>try simp only [zB]
  simp only [GoI];refine gQ ?_;refine gQ ?_;refine cQ o ?_;refine gQ ?_;refine gQ ?_;refine cQ e ?_;refine gQ ?_;refine gQ ?_;refine gQ ?_;trivial
 |none=>
  rw [w] at e;unfold autDS zAut at e⊢;refine q0g rfl rfl ?_;refine z6V fig20 (q0p mixed 600 _ ?_);simp (maxSteps:=3000000) only [irg20,go_sem,↓zA,↓reduceIte,↓reduceDIte] <;>try simp only [zB]
  simp only [GoI];refine gQ ?_;refine gQ ?_;refine cQ o ?_;refine gQ ?_;refine gQ ?_;refine cQ e ?_;refine gQ ?_;refine gQ ?_;trivial
def forceN(x:Nat)(f:Nat->α):α:=match x with
 |0=>f 0
 |n+1=>f (n+1)
theorem q0Z(x:Nat)(f:Nat->α):forceN x f=f x:=by cases x<;>rfl
def rotN(n x:Nat):Nat:=x / 2^ n+x*2^ (32-n)%4294967296
def sg0N(x:Nat):Nat:=(rotN 7 x^^^ rotN 18 x) ^^^ (x / 8)
def sg1N(x:Nat):Nat:=(rotN 17 x^^^ rotN 19 x) ^^^ (x / 1024)
def bs0N(x:Nat):Nat:=(rotN 2 x^^^ rotN 13 x) ^^^ rotN 22 x
def bs1N(x:Nat):Nat:=(rotN 6 x^^^ rotN 11 x) ^^^ rotN 25 x
def chN(e f g:Nat):Nat:=(e&&& f) ^^^ ((4294967295-e) &&& g)
def majN(a b c:Nat):Nat:=((a&&& b) ^^^ (a&&& c)) ^^^ (b&&& c)
def q4O(n x:Nat):rotW n (x:Int)=(rotN n x:Int):=by unfold rotW rotN;simp
def q4c(a b:Nat):xorW (a:Int) (b:Int)=((a^^^ b:Nat):Int):=by simp [xorW]
def z2e(a b:Nat):andW (a:Int) (b:Int)=((a&&& b:Nat):Int):=by simp [andW]
def k1d(x:Nat):sg0 (x:Int)=(sg0N x:Int):=by unfold sg0 sg0N;rw [q4O,q4O,q4c,show ((x:Int) / 8)=((x / 8:Nat):Int) by simp,q4c]
def k1h(x:Nat):sg1 (x:Int)=(sg1N x:Int):=by unfold sg1 sg1N;rw [q4O,q4O,q4c,show ((x:Int) / 1024)=((x / 1024:Nat):Int) by simp,q4c]
def k1v(x:Nat):bs0 (x:Int)=(bs0N x:Int):=by unfold bs0 bs0N;rw [q4O,q4O,q4O,q4c,q4c]
def k1f(x:Nat):bs1 (x:Int)=(bs1N x:Int):=by unfold bs1 bs1N;rw [q4O,q4O,q4O,q4c,q4c]
def k1A{e f g:Nat}(he:e<=4294967295):chW (e:Int) (f:Int) (g:Int)=(chN e f g:Int):=by unfold chW chN;rw [show (4294967295- (e:Int))=((4294967295-e:Nat):Int) by omega,z2e,z2e,q4c]
def j9c(a b c:Nat):majW (a:Int) (b:Int) (c:Int)=(majN a b c:Int):=by unfold majW majN;rw [z2e,z2e,z2e,q4c,q4c]
def schedN:Nat->List Nat->List Nat
 |0,l=>l
 |n+1,l=>forceN ((sg1N (l.getD 1 0)+l.getD 6 0+sg0N (l.getD 14 0)+l.getD 15 0)%4294967296) λw=>schedN n (w :: l)
def wN(b:List UInt8)(t:Nat):Nat:=(wS b t).toNat
def q4U(b:List UInt8)(t:Nat):((wN b t:Nat):Int)=wS b t:=by have:=z8g b t;unfold wN;omega
def wsR(b:List UInt8):Nat->List Nat
 |0=>[]
 |t+1=>wN b t :: wsR b t
def q8A(b:List UInt8):∀ {t i:Nat},i<t->(wsR b t).getD i 0=wN b (t-1-i)
 |t+1,0,_=>rfl
 |t+1,i+1,h=>by show (wsR b t).getD i 0=_;rw [q8A b (by omega)];congr 1;omega
def z6e(b:List UInt8):∀ (n t:Nat),16<=t->schedN n (wsR b t)=wsR b (t+n)
 |0,t,_=>rfl
 |n+1,t,h=>by
  rw [schedN,q0Z,q8A b (by omega),q8A b (by omega),q8A b (by omega),q8A b (by omega)];have e:(sg1N (wN b (t-1-1))+wN b (t-1-6)+sg0N (wN b (t-1-14))+wN b (t-1-15))%4294967296=wN b t:=by have a:=j6z (b:=b) h;rw [<-q4U,<-q4U,<-q4U,<-q4U,<-q4U,k1h,k1d] at a;rw [show t-1-1=t-2 by omega,show t-1-6=t-7 by omega,show t-1-14=t-15 by omega,show t-1-15=t-16 by omega];unfold W32 at a;omega
  rw [e];have:=z6e b n (t+1) (by omega);rw [show t+1+n=t+ (n+1) by omega] at this;exact this
def rndN:List Nat->List Nat->Nat->Nat->Nat->Nat->Nat->Nat->Nat->Nat->List Nat
 |k :: ks,w :: ws,a,b,c,d,e,f,g,h=>forceN (h+bs1N e+chN e f g+k+w) λt1=>forceN ((t1+ (bs0N a+majN a b c))%4294967296) λa'=>forceN ((d+t1)%4294967296) λe'=>rndN ks ws a' a b c e' e f g
 |_,_,a,b,c,d,e,f,g,h=>[a,b,c,d,e,f,g,h]
def cast8(l:List Nat):List Int:=l.map λ(n:Nat)=>(n:Int)
def k1y{w a b c d e f g h:Nat}(m:e<=4294967295):rnd (k:Int) (w:Int) (cast8 [a,b,c,d,e,f,g,h])=cast8 [(h+bs1N e+chN e f g+k+w+ (bs0N a+majN a b c))%4294967296,a,b,c,(d+ (h+bs1N e+chN e f g+k+w))%4294967296,e,f,g]:=by
 have j:t1S (k:Int) (w:Int) (cast8 [a,b,c,d,e,f,g,h])=((h+bs1N e+chN e f g+k+w:Nat):Int):=by show (h:Int)+bs1 (e:Int)+chW (e:Int) (f:Int) (g:Int)+k+w=_;rw [k1f,k1A m];omega
 have n:t2S (cast8 [a,b,c,d,e,f,g,h])=((bs0N a+majN a b c:Nat):Int):=by show bs0 (a:Int)+majW (a:Int) (b:Int) (c:Int)=_;rw [k1v,j9c];omega
 unfold rnd;rw [j,n];simp only [cast8,AB,BJ,AD,AK];unfold W32;congr 1
def kN(t:Nat):Nat:=(kS t).toNat
def j8B{t:Nat}(h:t<64):((kN t:Nat):Int)=kS t:=by have:=k1u t h;unfold kN;omega
def z9E(b:List UInt8)(h:List Int):∀ (n t:Nat) (a j c d e f g m:Nat),e<=4294967295->t+n<=64->rnds b h t=cast8 [a,j,c,d,e,f,g,m]->
 rnds b h (t+n)=cast8 (rndN ((List.range' t n).map kN) ((List.range' t n).map (wN b)) a j c d e f g m)
 |0,t,a,j,c,d,e,f,g,m,he,ht,hr=>hr
 |n+1,t,a,j,c,d,e,f,g,m,he,ht,hr=>by rw [Cp,AB,AB,rndN,q0Z,q0Z,q0Z];have o:rnds b h (t+1)=rnd (kS t) (wS b t) (rnds b h t):=rfl;rw [hr,<-j8B (by omega),<-q4U,k1y he] at o;have:=z9E b h n (t+1) _ _ _ _ _ _ _ _ (by omega) (by omega) o;rw [show t+1+n=t+ (n+1) by omega] at this;exact this
def kList:List Nat:=dat_ref04_constants.map Int.toNat
def j3d:(List.range' 0 64).map kN=kList:=by decide
theorem j1h(b:List UInt8):∀t,(wsR b t).reverse=(List.range t).map (wN b)
 |0=>rfl
 |t+1=>by rw [wsR,List.reverse_cons,j1h b t,Be,By];rfl
def wbN(b:List UInt8)(t:Nat):Nat:=256* (256* (256* (b.getD (4*t) 0).toNat+ (b.getD (4*t+1) 0).toNat)+ (b.getD (4*t+2) 0).toNat)+ (b.getD (4*t+3) 0).toNat
def j9T(b:List UInt8){t:Nat}(h:t<16):wbN b t=wN b t:=by have a:=q4U b t;rw [j5R h] at a;simp only [wdP,byI,AF] at a;unfold wbN;omega
def wbR(b:List UInt8):Nat->List Nat->List Nat
 |0,l=>l
 |n+1,l=>forceN (wbN b (15-n)) λw=>wbR b n (w :: l)
def j4Z(b:List UInt8):∀n,n<=16->wbR b n (wsR b (16-n))=wsR b 16
 |0,_=>rfl
 |n+1,h=>by rw [wbR,q0Z,j9T b (by omega)];have:=j4Z b n (by omega);rw [show 16-n=(15-n)+1 by omega] at this;rw [show 16- (n+1)=15-n by omega];exact this
def blkE(a b c d e f g h:Nat):List Nat->List Nat
 | [x0,x1,x2,x3,x4,x5,x6,x7]=>[(a+x0)%4294967296,(b+x1)%4294967296,(c+x2)%4294967296,(d+x3)%4294967296,(e+x4)%4294967296,(f+x5)%4294967296,(g+x6)%4294967296,(h+x7)%4294967296]
 |_=>[]
def blkN(bl:List UInt8)(a b c d e f g h:Nat):List Nat:=blkE a b c d e f g h (rndN kList (schedN 48 (wbR bl 16 [])).reverse a b c d e f g h)
def blkF(bl:List UInt8):List Nat->List Nat
 | [a,b,c,d,e,f,g,h]=>forceN a λa=>forceN b λb=>forceN c λc=>forceN d λd=>forceN e λe=>forceN f λf=>forceN g λg=>forceN h λh=>blkN bl a b c d e f g h
 |_=>[]
def z9l(j:List UInt8)(a b c d e f g h:Nat):blkF j [a,b,c,d,e,f,g,h]=blkN j a b c d e f g h:=by simp only [blkF,q0Z]
variable {r:List Nat}
theorem j8F(a b c d e f g h:Nat)(m:r.length=8):(blkE a b c d e f g h r).length=8/\∀x∈blkE a b c d e f g h r,x<=4294967295:=by
 match r,m with
 | [x0,x1,x2,x3,x4,x5,x6,x7],_=>refine ⟨rfl,λx j=> ?_⟩;simp only [blkE,Bb,Co,or_false] at j;rcases j with rfl|rfl|rfl|rfl|rfl|rfl|rfl|rfl<;>omega
def j6L(a b c d e f g h:Nat)(j:r.length=8):((List.range 8).map λi=>((cast8 [a,b,c,d,e,f,g,h]).getD i 0+ (cast8 r).getD i 0)%W32)=cast8 (blkE a b c d e f g h r):=by
 match r,j with
 | [x0,x1,x2,x3,x4,x5,x6,x7],_=>simp [cast8,blkE,Be,W32]
def z1j:∀ (j ws:List Nat) (a b c d e f g h:Nat),(rndN j ws a b c d e f g h).length=8
 | [],_,a,b,c,d,e,f,g,h=>by unfold rndN;rfl
 |_ :: _,[],a,b,c,d,e,f,g,h=>by unfold rndN;rfl
 |k :: j,w :: ws,a,b,c,d,e,f,g,h=>by rw [rndN,q0Z,q0Z,q0Z];exact z1j j ws _ _ _ _ _ _ _ _
def j6m(a:List UInt8):(List.range' 0 64).map (wN a)=(schedN 48 (wbR a 16 [])).reverse:=by have c:wbR a 16 []=wsR a 16:=j4Z a 16 (by decide);rw [c,z6e a 48 16 (by decide),j1h,List.range_eq_range']
theorem j8Q(j:List UInt8){a b c d e f g h:Nat}(n:e<=4294967295):blkS j (cast8 [a,b,c,d,e,f,g,h])=cast8 (blkF j [a,b,c,d,e,f,g,h]):=by have m:=z9E j (cast8 [a,b,c,d,e,f,g,h]) 64 0 a b c d e f g h n (by decide) rfl;rw [j3d,j6m] at m;rw [z9l];unfold blkN blkS;have o:=z1j kList (schedN 48 (wbR j 16 [])).reverse a b c d e f g h;generalize rndN kList (schedN 48 (wbR j 16 [])).reverse a b c d e f g h=r at*;rw [Ag] at m;rw [m];exact j6L a b c d e f g h o
def hashF(p:List UInt8):Nat->List Nat
 |0=>[0x6a09e667,0xbb67ae85,0x3c6ef372,0xa54ff53a,0x510e527f,0x9b05688c,0x1f83d9ab,0x5be0cd19]
 |k+1=>blkF ((p.take (64*k+64)).drop (64*k)) (hashF p k)
variable {l:List Nat}
def j8q(j:List UInt8)(h:l.length=8):(blkF j l).length=8/\∀x∈blkF j l,x<=4294967295:=by
 match l,h with
 | [a,b,c,d,e,f,g,h],_=>rw [z9l];exact j8F a b c d e f g h (z1j _ _ _ _ _ _ _ _ _ _)
def z6m(p:List UInt8):∀k,(hashF p k).length=8/\∀x∈hashF p k,x<=4294967295
 |0=>⟨rfl,λx a=>by simp [hashF] at a;omega⟩
 |k+1=>j8q _ (z6m p k).1
theorem z4N(p:List UInt8):∀k,hashS p k=cast8 (hashF p k)
 |0=>rfl
 |k+1=>by
  rw [hashS,z4N p k,hashF];have h:=z6m p k;generalize hashF p k=l at*;match l,h with
  | [a,b,c,d,e,f,g,h'],⟨_,h2⟩=>exact j8Q _ (h2 e (by simp))
def wordF(l:List Nat)(i:Nat):UInt8:=UInt8.ofNat ((l.getD (i / 4) 0) / 2^ (24-8* (i%4))%256)
def shaF(b:List UInt8):List UInt8:=(List.range 32).map (wordF (hashF (padS b) (blksN b)))
theorem j1c(b:List UInt8):shaS b=shaF b:=by
 unfold shaS shaF bytesS;rw [z4N];apply Bg;intro i hi;have key:∀ (l:List Nat) (j:Nat),((cast8 l).getD j 0).toNat=l.getD j 0:=λl j=>by unfold cast8;rw [Ae,Ae,AR];cases l[j]?<;>rfl
 unfold wordB wordF;rw [key]
def frcL{α:Type}:List Nat->(List Nat->α)->α
 | [],f=>f []
 |x :: l,f=>forceN x λy=>frcL l λm=>f (y :: m)
theorem q3N{α:Type}:∀ (l:List Nat) (f:List Nat->α),frcL l f=f l
 | [],f=>rfl
 |x :: l,f=>by rw [frcL,q0Z,q3N l]
def obN(l:List Nat):List UInt8:=l.map UInt8.ofNat
def tbN(l:List UInt8):List Nat:=l.map UInt8.toNat
def j2q(l:List UInt8):obN (tbN l)=l:=by unfold obN tbN;rw [BI];exact (Bg λx _=>AS).trans (List.map_id _)
def q6v(a b:Nat):UInt8.ofNat (a^^^ b)=UInt8.ofNat a^^^ UInt8.ofNat b:=by apply AZ.1;rw [CT,Bd,Bd,Bd,<-Nat.xor_mod_two_pow]
def sTabN:Nat:=(dat_ref06_substitutes:List UInt8).foldr (λc a=>c.toNat+256*a) 0
def sbN(tb n:Nat):Nat:=tb / 2^ (8* (n%256))%256
def x2N(n:Nat):Nat:=(2* (n%256)) ^^^ (n%256 / 128*283)
def j9D:forceN sTabN (λa=>(List.range 256).all λm=>(subS (UInt8.ofNat m)).toNat==sbN a m)=true:=by kernel_rfl
def z5F:((List.range 256).all λm=>(mulS 2 (UInt8.ofNat m)).toNat==x2N m%256&& ((mulS 3 (UInt8.ofNat m)).toNat==(x2N m^^^ m)%256&& ((mulS 1 (UInt8.ofNat m)).toNat==m&& (dblS (UInt8.ofNat m)).toNat==x2N m%256)))=true:=by kernel_rfl
def all256{p:Nat->Bool}(h:(List.range 256).all p=true)(m:Nat):p (m%256)=true:=by rw [Bu] at h;exact h _ (BN.2 (CS _ (by decide)))
def q3q(n:Nat):UInt8.ofNat (n%256)=UInt8.ofNat n:=by apply AZ.1;rw [Bd,Bd,Nat.mod_mod]
def z2r{b:UInt8}{n:Nat}(h:b.toNat=n):b=UInt8.ofNat n:=by rw [<-h,AS]
def k0J(n:Nat):subS (UInt8.ofNat n)=UInt8.ofNat (sbN sTabN n):=by have h:=j9D;rw [q0Z] at h;have a:=all256 h n;rw [beq_iff_eq,q3q] at a;refine (z2r a).trans ?_;unfold sbN;rw [Nat.mod_mod]
def z6q(n:Nat):x2N (n%256)=x2N n:=by unfold x2N;rw [Nat.mod_mod]
def z9D(n:Nat):mulS 2 (UInt8.ofNat n)=UInt8.ofNat (x2N n):=by have a:=all256 z5F n;simp only [Ai,beq_iff_eq,q3q,z6q] at a;rw [z2r a.1,q3q]
def j6j(n:Nat):mulS 3 (UInt8.ofNat n)=UInt8.ofNat (x2N n^^^ n):=by have a:=all256 z5F n;simp only [Ai,beq_iff_eq,q3q,z6q] at a;rw [z2r a.2.1,q3q,q6v,q3q,q6v]
def j5t(n:Nat):mulS 1 (UInt8.ofNat n)=UInt8.ofNat n:=by have a:=all256 z5F n;simp only [Ai,beq_iff_eq,q3q,z6q] at a;rw [z2r a.2.2.1,q3q]
def j9q(n:Nat):dblS (UInt8.ofNat n)=UInt8.ofNat (x2N n):=by have a:=all256 z5F n;simp only [Ai,beq_iff_eq,q3q,z6q] at a;rw [z2r a.2.2.2,q3q]
theorem j7K(g:Nat->UInt8):fS g= [g 0,g 1,g 2,g 3,g 4,g 5,g 6,g 7,g 8,g 9,g 10,g 11,g 12,g 13,g 14,g 15]:=rfl
def xorL(a b:List Nat):List Nat:=List.zipWith (· ^^^ ·) a b
theorem len16(h:l.length=16):∃a b c d e f g i j k m n o p q r,l= [a,b,c,d,e,f,g,i,j,k,m,n,o,p,q,r]:=by
 match l,h with
 | [a,b,c,d,e,f,g,i,j,k,m,n,o,p,q,r],_=>exact ⟨a,b,c,d,e,f,g,i,j,k,m,n,o,p,q,r,rfl⟩
theorem z0Z{a b:List Nat}(c:a.length=16)(e:b.length=16):(xorL a b).length=16:=by unfold xorL;rw [List.length_zipWith,c,e];rfl
def j5n{a b:List Nat}(e:a.length=16)(c:b.length=16):xorS (obN a) (obN b)=obN (xorL a b):=by obtain ⟨a0,a1,a2,a3,a4,a5,a6,a7,a8,a9,aa,ab,ac,ad,ae,af,rfl⟩:=len16 e;obtain ⟨b0,b1,b2,b3,b4,b5,b6,b7,b8,b9,ba,bb,bc,bd,be,bf,rfl⟩:=len16 c;unfold xorS;rw [j7K];simp only [obN,xorL,List.zipWith_cons_cons,List.zipWith_nil_left,AB,BJ,q6v,AD,AK]
def shN(tb:Nat):List Nat->List Nat
 | [s0,s1,s2,s3,s4,s5,s6,s7,s8,s9,sa,sb,sc,sd,se,sf]=>[sbN tb s0,sbN tb s5,sbN tb sa,sbN tb sf,sbN tb s4,sbN tb s9,sbN tb se,sbN tb s3,sbN tb s8,sbN tb sd,sbN tb s2,sbN tb s7,sbN tb sc,sbN tb s1,sbN tb s6,sbN tb sb]
 |_=>[]
def colN(a b c d:Nat)(l:List Nat):List Nat:=(((x2N a^^^ (x2N b^^^ b)) ^^^ c) ^^^ d) :: (((a^^^ x2N b) ^^^ (x2N c^^^ c)) ^^^ d) :: (((a^^^ b) ^^^ x2N c) ^^^ (x2N d^^^ d)) :: ((((x2N a^^^ a) ^^^ b) ^^^ c) ^^^ x2N d) :: l
def mcN:List Nat->List Nat
 | [s0,s1,s2,s3,s4,s5,s6,s7,s8,s9,sa,sb,sc,sd,se,sf]=>colN s0 s1 s2 s3 (colN s4 s5 s6 s7 (colN s8 s9 sa sb (colN sc sd se sf [])))
 |_=>[]
theorem j6E(h:l.length=16)(a:Nat):(shN a l).length=16:=by obtain ⟨a0,a1,a2,a3,a4,a5,a6,a7,a8,a9,aa,ab,ac,ad,ae,af,rfl⟩:=len16 h;rfl
theorem j8f(h:l.length=16):(mcN l).length=16:=by obtain ⟨a0,a1,a2,a3,a4,a5,a6,a7,a8,a9,aa,ab,ac,ad,ae,af,rfl⟩:=len16 h;rfl
theorem k1p(h:l.length=16):shfS (obN l)=obN (shN sTabN l):=by obtain ⟨a0,a1,a2,a3,a4,a5,a6,a7,a8,a9,aa,ab,ac,ad,ae,af,rfl⟩:=len16 h;unfold shfS;rw [j7K];simp only [obN,shN,AB,BJ,<-k0J];rfl
def k0q(b f:List UInt8)(c r:Nat):mixA b f c r 4=((mulS (f.getD ((0+4-r)%4) 0) (b.getD (4*c+0) 0) ^^^ mulS (f.getD ((1+4-r)%4) 0) (b.getD (4*c+1) 0)) ^^^ mulS (f.getD ((2+4-r)%4) 0) (b.getD (4*c+2) 0)) ^^^ mulS (f.getD ((3+4-r)%4) 0) (b.getD (4*c+3) 0):=by simp only [mixA,BD]
def k1k(h:l.length=16):mixS (obN l) [2,3,1,1]=obN (mcN l):=by obtain ⟨a0,a1,a2,a3,a4,a5,a6,a7,a8,a9,aa,ab,ac,ad,ae,af,rfl⟩:=len16 h;unfold mixS;rw [j7K];simp only [k0q,obN,mcN,colN,AB,BJ,q6v,<-z9D];simp only [Nat.reduceDiv,Nat.reduceMod,Nat.reduceAdd,Nat.reduceSub,Nat.reduceMul,AD,AK,j5t];simp only [j6j,q6v,<-z9D]
def nextK(tb p:Nat):List Nat->List Nat
 | [k0,k1,k2,k3,k4,k5,k6,k7,k8,k9,ka,kb,kc,kd,ke,kf]=>
  frcL [k0^^^ (sbN tb kd^^^ p),k1^^^ sbN tb ke,k2^^^ sbN tb kf,k3^^^ sbN tb kc] λw=>
  frcL (xorL [k4,k5,k6,k7] w) λx=>frcL (xorL [k8,k9,ka,kb] x) λy=>w++x++y++xorL [kc,kd,ke,kf] y
 |_=>[]
def rkyC{α:Type}(tb:Nat):Nat->Nat->List Nat->(List (List Nat)->α)->α
 |0,_,k,f=>f [k]
 |n+1,p,k,f=>frcL (nextK tb p k) λk'=>forceN (x2N p) λp'=>rkyC tb n p' k' λl=>f (k :: l)
def rkyN(tb:Nat):Nat->Nat->List Nat->List (List Nat)
 |0,_,k=>[k]
 |n+1,p,k=>k :: rkyN tb n (x2N p) (nextK tb p k)
theorem z3n{α:Type}(a:Nat):∀ (n p:Nat) (k:List Nat) (f:List (List Nat)->α),rkyC a n p k f=f (rkyN a n p k)
 |0,_,_,_=>rfl
 |n+1,p,k,f=>by rw [rkyC,q3N,q0Z,z3n a n];rfl
def okK(key:List UInt8)(r:Nat)(l:List Nat):Prop:=l.length=16/\∀j,j<16->(wordsS key).getD (16*r+j) 0=UInt8.ofNat (l.getD j 0)
variable {key:List UInt8}
theorem j8J(C:key.length=16){r p:Nat}(hr:r<10)(h:okK key r l)(n:facS key (4*r+4)=UInt8.ofNat p):okK key (r+1) (nextK sTabN p l)/\facS key (4* (r+1)+4)=UInt8.ofNat (x2N p):=by
 obtain ⟨V,a⟩:=h;obtain ⟨k0,k1,k2,k3,k4,k5,k6,k7,k8,k9,ka,kb,kc,B,w,H,rfl⟩:=len16 V;have e:∀ (i j:Nat),i<4->j<4->(wordsS key).getD (16* (r+1)+ (4*i+j)) 0=(wordsS key).getD (16*r+ (4*i+j)) 0^^^ (lastS (wordsS key) (facS key (4*r+4+i)) (4*r+4+i)).getD j 0:=λi j hi c=>by have:=q9i key C (i:=4*r+4+i) (j:=j) (by omega) (by omega) c;rw [show 4* (4*r+4+i)+j=16* (r+1)+ (4*i+j) by omega,show 4* (4*r+4+i-4)+j=16*r+ (4*i+j) by omega] at this;exact this
 have R:lastS (wordsS key) (facS key (4*r+4)) (4*r+4)= [UInt8.ofNat (sbN sTabN B) ^^^ UInt8.ofNat p,UInt8.ofNat (sbN sTabN w),UInt8.ofNat (sbN sTabN H),UInt8.ofNat (sbN sTabN kc)]:=by unfold lastS;rw [if_pos (by omega),show 4* (4*r+4) -3=16*r+13 by omega,show 4* (4*r+4) -2=16*r+14 by omega,show 4* (4*r+4) -1=16*r+15 by omega,show 4* (4*r+4) -4=16*r+12 by omega,a 13 (by decide),a 14 (by decide),a 15 (by decide),a 12 (by decide),n];simp only [AD,AK,k0J]
 have m:∀i,1<=i->i<4->lastS (wordsS key) (facS key (4*r+4+i)) (4*r+4+i)= [(wordsS key).getD (16* (r+1)+ (4* (i-1)+0)) 0,(wordsS key).getD (16* (r+1)+ (4* (i-1)+1)) 0,(wordsS key).getD (16* (r+1)+ (4* (i-1)+2)) 0,(wordsS key).getD (16* (r+1)+ (4* (i-1)+3)) 0]:=λi h1 h2=>by unfold lastS;rw [if_neg (by omega),show 4* (4*r+4+i) -4=16* (r+1)+ (4* (i-1)+0) by omega,show 4* (4*r+4+i) -3=16* (r+1)+ (4* (i-1)+1) by omega,show 4* (4*r+4+i) -2=16* (r+1)+ (4* (i-1)+2) by omega,show 4* (4*r+4+i) -1=16* (r+1)+ (4* (i-1)+3) by omega]
 have c0:=λj c=>e 0 j (by decide) c;have c1:=λj c=>e 1 j (by decide) c;have c2:=λj c=>e 2 j (by decide) c;have c3:=λj c=>e 3 j (by decide) c;simp only [AF,R] at c0;rw [m 1 (by decide) (by decide)] at c1;rw [m 2 (by decide) (by decide)] at c2;rw [m 3 (by decide) (by decide)] at c3;simp only [Nat.reduceSub,Nat.reduceMul,Nat.reduceAdd,Ag,AF] at c0 c1 c2 c3;have S:facS key (4* (r+1)+4)=UInt8.ofNat (x2N p):=by rw [show 4* (r+1)+4=4*r+4+1+1+1+1 by omega,q4u key (by omega),if_neg (by omega),q4u key (by omega),if_neg (by omega),q4u key (by omega),if_neg (by omega),q4u key (by omega),if_pos (by omega),n,j9q]
 refine ⟨⟨?_,?_⟩,S⟩
 . simp only [nextK,q3N,xorL];rfl
 have P:=c0 0 (by decide);have F:=c0 1 (by decide);have o:=c0 2 (by decide);have s:=c0 3 (by decide);have d4:=c1 0 (by decide);have W:=c1 1 (by decide);have I:=c1 2 (by decide);have G:=c1 3 (by decide);have Z:=c2 0 (by decide);have d9:=c2 1 (by decide);have D:=c2 2 (by decide);have db:=c2 3 (by decide);have x:=c3 0 (by decide);have dd:=c3 1 (by decide);have de:=c3 2 (by decide);have q:=c3 3 (by decide);have E:=a 0 (by decide);have t:=a 1 (by decide);have X:=a 2 (by decide);have A:=a 3 (by decide);have Y:=a 4 (by decide);have u:=a 5 (by decide);have y:=a 6 (by decide);have Q:=a 7 (by decide);have b8:=a 8 (by decide);have N:=a 9 (by decide);have K:=a 10 (by decide);have z:=a 11 (by decide);have J:=a 12 (by decide);have O:=a 13 (by decide);have L:=a 14 (by decide);have U:=a 15 (by decide);simp only [AF,Ag,Nat.reduceAdd,AD,AK] at*;have f:∀j,j<16->j=0\/j=1\/j=2\/j=3\/j=4\/j=5\/j=6\/j=7\/j=8\/j=9\/j=10\/j=11\/j=12\/j=13\/j=14\/j=15:=by omega
 intro j c;rcases f j c with rfl|rfl|rfl|rfl|rfl|rfl|rfl|rfl|rfl|rfl|rfl|rfl|rfl|rfl|rfl|rfl;all_goals
  simp only [nextK,q3N,xorL,List.zipWith_cons_cons,List.zipWith_nil_left,Ay,Ar,AD,AK,q6v,AF,P,F,o,s,d4,W,I,G,Z,d9,D,db,x,dd,de,q,E,t,X,A,Y,u,y,Q,b8,N,K,z,J,O,L,U]
theorem j0g(l:List Nat)(j:Nat):(obN l).getD j 0=UInt8.ofNat (l.getD j 0):=by unfold obN;rw [Ae,Ae,AR];cases l[j]?<;>rfl
def j4I{r:Nat}{k:List Nat}(a:okK key r k)(e:l.length=16):addS (obN l) (wordsS key) r=obN (xorL l k):=by rw [<-j5n e a.1];unfold addS xorS fS;apply Bg;intro i c;rw [BN] at c;rw [a.2 i c,j0g k]
def j4N{key:List UInt8}(a:key.length=16):∀ (n r p:Nat) (k:List Nat),r+n<=10->okK key r k->facS key (4*r+4)=UInt8.ofNat p->(rkyN sTabN n p k).length=n+1/\∀i,i<=n->okK key (r+i) ((rkyN sTabN n p k).getD i [])
 |0,r,p,k,hr,ho,hf=>⟨rfl,λi j=>by
  have:i=0:=by omega
  subst this;exact ho⟩
 |n+1,r,p,k,hr,ho,hf=>by
  obtain ⟨f,c⟩:=j8J a (by omega) ho hf;obtain ⟨h,e⟩:=j4N a n (r+1) (x2N p) _ (by omega) f c;refine ⟨by rw [rkyN,As,h],λi j=> ?_⟩;cases i with
  |zero=>exact ho
  |succ i=>have:=e i (by omega);rw [show r+1+i=r+ (i+1) by omega] at this;exact this
def rdN(tb:Nat):List (List Nat)->List Nat->List Nat
 | [],l=>l
 |k :: ks,l=>rdN tb ks (xorL (if ks.isEmpty then shN tb l else mcN (shN tb l)) k)
def rdC{α:Type}(tb:Nat):List (List Nat)->List Nat->(List Nat->α)->α
 | [],l,f=>f l
 |k :: ks,l,f=>frcL (shN tb l) λs=>frcL (if ks.isEmpty then s else mcN s) λm=>frcL (xorL m k) λl'=>rdC tb ks l' f
theorem j4K{α:Type}(c:Nat):∀ (a:List (List Nat)) (l:List Nat) (f:List Nat->α),rdC c a l f=f (rdN c a l)
 | [],_,_=>rfl
 |k :: a,l,f=>by rw [rdC,q3N,q3N,q3N,j4K c a];rfl
def j9l{key b:List UInt8}:∀ (a:List (List Nat)) (r:Nat) (l:List Nat),(∀i,i<a.length->okK key (r+1+i) (a.getD i []))->r+1+a.length=11->l.length=16->encA (wordsS key) b r=obN l->encS (wordsS key) b=obN (rdN sTabN a l)/\(rdN sTabN a l).length=16
 | [],r,l,_,hr,hl,he=>by
  have:r=10:=by simp at hr;omega
  subst this;exact ⟨he,hl⟩
 |k :: a,r,l,ho,hr,hl,he=>by
  have e:okK key (r+1) k:=ho 0 (by simp);have c:=j6E hl sTabN;have f:(if a.isEmpty then shN sTabN l else mcN (shN sTabN l)).length=16:=by
   split
   . exact c
   exact j8f c
  have h:encA (wordsS key) b (r+1)=obN (xorL (if a.isEmpty then shN sTabN l else mcN (shN sTabN l)) k):=by
   rw [encA,he,rndE,<-j4I e f,k1p hl,k1k c];congr 1;cases a with
   |nil=>rw [if_neg (by simp at hr;omega)];rfl
   |cons k' a=>rw [if_pos (by simp at hr;omega)];rfl
  refine j9l a (r+1) _ (λi hi=> ?_) (by simp at hr;omega) (z0Z f e.1) h;have:=ho (i+1) (by simp;omega);rw [show r+1+ (i+1)=r+1+1+i by omega] at this;exact this
def enN(tb:Nat)(ks:List (List Nat))(b:List Nat):List Nat:=match ks with
 | []=>b
 |k :: ks=>rdN tb ks (xorL b k)
def enC(tb:Nat)(ks:List (List Nat))(b:List Nat)(f:List Nat->α):α:=match ks with
 | []=>f b
 |k :: ks=>frcL (xorL b k) λl=>rdC tb ks l f
theorem k0v(c:Nat)(a:List (List Nat))(b:List Nat)(f:List Nat->α):enC c a b f=f (enN c a b):=by
 cases a with
 |nil=>rfl
 |cons k a=>rw [enC,q3N,j4K];rfl
def okKs(key:List UInt8)(ks:List (List Nat)):Prop:=ks.length=11/\∀i,i<=10->okK key i (ks.getD i [])
theorem k1z{a:List (List Nat)}(j:okKs key a){b:List Nat}(h:b.length=16):encS (wordsS key) (obN b)=obN (enN sTabN a b)/\(enN sTabN a b).length=16:=by
 obtain ⟨e,c⟩:=j;match a,e,c with
 |k :: a,e,c=>
  have f:okK key 0 k:=c 0 (by omega);refine j9l a 0 _ (λi hi=> ?_) (by simp at e;omega) (z0Z h f.1) ?_
  . have:=c (i+1) (by simp at e;omega);rw [show i+1=0+1+i by omega] at this;rw [show 0+1+i=i+1 by omega] at*;exact this
  rw [encA,j4I f h]
def j8o(a:key.length=16):okKs key (rkyN sTabN 10 1 (tbN key)):=by
 have h:okK key 0 (tbN key):=by refine ⟨by unfold tbN;rw [AY,a],λj c=> ?_⟩;rw [show 16*0+j=j by omega,z2y key a c,<-j0g,j2q]
 obtain ⟨f,e⟩:=j4N a 10 0 1 _ (by omega) h (z9s key (by omega));exact ⟨f,λi m=>by have:=e i m;rw [Ag] at this;exact this⟩
def cbN(tb:Nat)(ks:List (List Nat))(iv p:List Nat):Nat->List Nat×List Nat
 |0=>(iv,[])
 |n+1=>(enN tb ks (xorL ((p.take (16*n+16)).drop (16*n)) (cbN tb ks iv p n).1),(cbN tb ks iv p n).2++enN tb ks (xorL ((p.take (16*n+16)).drop (16*n)) (cbN tb ks iv p n).1))
def cbC{α:Type}(tb:Nat)(ks:List (List Nat))(iv p:List Nat):Nat->(List Nat->List Nat->α)->α
 |0,f=>f iv []
 |n+1,f=>cbC tb ks iv p n λv out=>frcL (xorL ((p.take (16*n+16)).drop (16*n)) v) λx=>enC tb ks x λc=>f c (out++c)
theorem z9w{α:Type}(a:Nat)(c:List (List Nat))(iv p:List Nat):∀ (n:Nat) (f:List Nat->List Nat->α),cbC a c iv p n f=f (cbN a c iv p n).1 (cbN a c iv p n).2
 |0,_=>rfl
 |n+1,f=>by rw [cbC,z9w a c iv p n,q3N,k0v];rfl
def j9p{key:List UInt8}{a:List (List Nat)}(c:okKs key a){iv p:List Nat}(m:iv.length=16):∀n,16*n<=p.length->chA (wordsS key) (obN iv) (obN p) n=(obN (cbN sTabN a iv p n).1,obN (cbN sTabN a iv p n).2)/\(cbN sTabN a iv p n).1.length=16
 |0,_=>⟨rfl,m⟩
 |n+1,h=>by
  obtain ⟨s,f⟩:=j9p (p:=p) c m n (by omega);have j:((p.take (16*n+16)).drop (16*n)).length=16:=by rw [Ah,Am];omega
  have e:((obN p).take (16*n+16)).drop (16*n)=obN ((p.take (16*n+16)).drop (16*n)):=by unfold obN;rw [List.map_drop,List.map_take]
  obtain ⟨q,o⟩:=k1z c (z0Z j f);refine ⟨?_,o⟩;rw [chA,s,e,j5n j f,q,cbN];simp only [obN,By]
def ctsC(key iv p:List UInt8)(f:List Nat->α):α:=forceN sTabN λtb=>rkyC tb 10 1 (tbN key) λks=>cbC tb ks (tbN iv) (tbN p) (p.length / 16) λ_ out=>f out
def j3t{iv p:List UInt8}(c:key.length=16)(a:iv.length=16):chainS key iv p=ctsC key iv p obN:=by unfold ctsC chainS;rw [q0Z,z3n,z9w];have:=(j9p (j8o c) (iv:=tbN iv) (p:=tbN p) (by unfold tbN;rw [AY,a]) (p.length / 16) (by unfold tbN;rw [AY];omega)).1;rw [j2q,j2q] at this;rw [this]
def k0T{iv p c:List UInt8}(f:key.length=16)(j:iv.length=16)(a:c.length≠16)(h:ctsC key iv (zpL p (zpN p.length)) (λl=>l==tbN c)=true):ctsE key iv p=(exchS c).take p.length:=by
 have e:chainS key iv (zpL p (zpN p.length))=c:=by rw [j3t f j];unfold ctsC at h⊢;rw [q0Z,z3n,z9w] at h⊢;rw [beq_iff_eq] at h;rw [h,j2q]
 unfold ctsE;rw [e];simp only;rw [if_neg a]
def hmF(k b:List UInt8):List UInt8:=shaF (hkS k 92++shaF (hkS k 54++b))
def z8D(k b:List UInt8):hmS k b=hmF k b:=by unfold hmS hmF;rw [j1c,j1c]
theorem dk16{p:Int}(u a:Nat)(c:b.length=16):dkS (p,v,b) u a=(hmF b (four 1++(four u++ [UInt8.ofNat a])++ [0]++ []++four 128)).take 16:=by rw [<-z8D];show kdfS b (four u++ [UInt8.ofNat a]) [] b.length=_;rw [c];show (kacc b (four u++ [UInt8.ofNat a]) [] 16 1).take 16=_;have h:kacc b (four u++ [UInt8.ofNat a]) [] 16 1=kblk b (four u++ [UInt8.ofNat a]) [] 16 1:=Ar _;rw [h];rfl
def k16:List UInt8:=List.replicate 16 1
def cf3:List UInt8:=List.replicate 16 3
def a17:Aut:=(([⟨#[97]⟩],⟨#[82]⟩),[],10,7,(0,0,[]),1,[])
def pln17:List UInt8:=[98,43,48,41,160,3,2,1,5,161,14,48,12,160,5,48,3,27,1,97,161,3,27,1,82,163,3,2,1,7,164,8,24,6,0,0,0,0,0,10,166,3,2,1,1]
def e11:List UInt8:=[64,35,45,162,19,223,77,27,164,20,92,171,251,171,201,40]
def m11:List UInt8:=[252,150,229,143,30,22,150,125,46,214,179,59,220,93,126,178]
def m7:List UInt8:=[163,88,142,153,58,251,89,39,170,41,2,52,88,169,189,68]
def ch17:List UInt8:=[169,231,95,161,140,145,223,185,98,82,68,151,127,216,54,163,81,91,126,12,35,152,243,230,99,86,113,38,153,97,12,255,169,166,11,221,12,170,13,130,75,69,82,57,97,48,66,23,205,217,13,81,12,102,69,189,230,17,214,184,251,34,214,24]
def ct17:List UInt8:=[169,231,95,161,140,145,223,185,98,82,68,151,127,216,54,163,81,91,126,12,35,152,243,230,99,86,113,38,153,97,12,255,205,217,13,81,12,102,69,189,230,17,214,184,251,34,214,24,169,166,11,221,12,170,13,130,75,69,82,57,97]
def tg11:List UInt8:=[144,202,138,216,107,183,139,144,159,96,191,248,127,199,193,157]
def tg7:List UInt8:=[185,105,209,48,55,251,165,186,123,19,51,32,233,167,129,41]
def q7z:autS a17=pln17:=by kernel_rfl
def va17:vAut a17=true:=by kernel_rfl
def rd17:autD pln17=some a17:=by kernel_rfl
theorem k0H:dkS (1,0,k16) 11 170=e11:=by rw [dk16 11 170 rfl];kernel_rfl
theorem k0j:dkS (1,0,k16) 11 85=m11:=by rw [dk16 11 85 rfl];kernel_rfl
theorem k1t:dkS (1,0,k16) 7 85=m7:=by rw [dk16 7 85 rfl];kernel_rfl
def j5I:(hmS m11 (z16++ct17)).take 16=tg11:=by rw [z8D];kernel_rfl
def j9b:(hmS m7 (z16++ct17)).take 16=tg7:=by rw [z8D];kernel_rfl
def j7O:ctsE e11 z16 (cf3++pln17)=ct17:=by rw [k0T (c:=ch17) rfl rfl (by decide) (by kernel_rfl)];kernel_rfl
theorem se17:seS (1,0,k16) 11 cf3 pln17=ct17++tg11:=by unfold seS ciS tg9S;rw [if_pos rfl,if_pos rfl,k0H,k0j,j7O,j5I]
theorem opx17:opS (1,0,k16) 7 1 0 (ct17++tg11)=([],10):=by
 have c:(ct17++tg11).take ((ct17++tg11).length-k16.length)=ct17:=by kernel_rfl
 have a:(ct17++tg11).drop ((ct17++tg11).length-k16.length)=tg11:=by kernel_rfl
 unfold opS;rw [if_pos (by kernel_rfl),if_pos (by decide)];dsimp only;rw [if_neg (by decide),if_neg (by decide),c,a];unfold tg9S;rw [if_pos rfl,k1t,j9b,if_neg (by decide)]
set_option maxHeartbeats 4000000
def z2c(x:Int):UInt8.ofNat (IntKind.u8.wrap (x.tmod 256)).toNat=byteOf x:=by
 unfold byteOf;rw [u8w,u8w];have h:x.tmod 256%256=x%256:=by rw [Int.tmod_def];omega
 rw [h]
def k1w(v:Int)(n:Nat)(hn:n<=7):PC Tryz.prog 124 [rI v,rI n] (.isl .u8 (numS v n)):=by
 have hl:(numS v n).length=n:=by simp [numS]
 have h:IntKind.i64.wrap ((n:Int) -1)=(n:Int) -1:=wrapi (by omega);refine q0g rfl rfl ?_;refine ry1 fi124 h ?_;refine q2Z 5 .u8 (λk=>(numS v n).take k) (λk=>[(6,rI ((n:Int) -1-k))]) n (λ_=>True) rfl (by simp) (by simp) rfl (λi=>rfl) ?_ λk hk _=> ?_
 . with_reducible refine sxE ?_
   simp
 have hln:((numS v n).take k).length=k:=by simp [numS];omega
 have f:IntKind.i64.wrap (8* ((n:Int) -1-k))=8* ((n:Int) -1-k):=wrapi (by omega);have m:IntKind.i64.wrap ((n:Int) -1-k-1)=(n:Int) -1- ((k+1:Nat):Int):=by rw [wrapi (by omega)];omega
 refine gy2 f m ?_;refine ⟨λhlt=> ?_,λhge=> ?_⟩
 . have a:k<n:=by omega
   have c:=z9d (v:=v) a;have j:(8* ((n:Int) -1-k)).toNat=8* (n-1-k):=by omega
   have e:UInt8.ofNat (IntKind.u8.wrap ((v.fdiv (2^ min (8* (n-1-k)) 64)).tmod 256)).toNat=byteAt v (n-1-k):=z2c _;rw [j,e];refine ⟨by omega,by decide,by rw [<-e];exact q0U _,⟨by omega,by omega⟩,q1P [_,_] [] a trivial (by rw [c];rfl) ?_⟩;simp (maxSteps:=3000000) only [c,Ab,go_sem,↓zA,↓reduceIte,↓reduceDIte] <;>try simp only [zB]
 obtain rfl:k=n:=by omega
 refine ⟨⟨Ad _,by omega⟩,?_⟩;rw [Aa (by omega),Aa (by omega)]
def timR(t:Int):List UInt8:=elemS 24 [numS t 6]
theorem j6M(t:Int):PC Tryz.prog 59 [rI t] (.isl .u8 (timR t)):=by refine q0g rfl rfl ?_;refine rQ fi59 ?_;refine cQ (k1w t 6 (by decide)) ?_;refine cQ (q9j 24 24 (by decide) _ (by simp [numS])) ?_;rfl
def j7z{t:Int}(h:0<=t/\t<=1099511627776):timR t=timeS t:=by unfold timeS timR;rw [if_pos h]
def z5H(t:Int):(timR t).length<=11:=by unfold timR;rw [q0A (by rw [q0F];decide),q0J,q0F];decide
def negB(v:Int):List UInt8:=if 128<=(byteOf v).toNat then [0,byteOf v] else [byteOf v]
def intR(v:Int):List UInt8:=if 0<=v/\v<=4611686018427387904 then intS v else if v<0 then elemS 2 [negB v] else elemS 2 [numS v 8]
def q5c(h:0<=v/\v<=4611686018427387904):intR v=intS v:=if_pos h
def q1S(v:Int):(intR v).length<=14:=by
 unfold intR;split
 . exact q1g v
 have a:=q0n 2 [negB v];have c:=q0n 2 [numS v 8];simp only [Ak,Aq,Ac,q0F] at a c;have h3:(negB v).length<=2:=by unfold negB;split<;>simp
 split<;>omega
def j9o(v:Int)(f:v<0)(h1: -9223372036854775808<=v):PC Tryz.prog 55 [rI v] (.isl .u8 (intR v)):=by
 have e:intR v=elemS 2 [negB v]:=by unfold intR;rw [if_neg (by omega),if_pos f]
 obtain ⟨n,j⟩:∃n:Nat,v= -(n:Int):=⟨(-v).toNat,by omega⟩
 have ht:v.tdiv 256= -((n / 256:Nat):Int):=by rw [j,Int.neg_tdiv,show (256:Int)=((256:Nat):Int) from rfl,z3Q]
 have hd:v.tdiv 256<=0:=by omega
 have hd1: -9223372036854775808<=v.tdiv 256:=by omega
 have c:IntKind.i64.wrap (v.tdiv 256)=v.tdiv 256:=wrapi (by omega);rw [e];refine q0g rfl rfl ?_;refine ry1 fi55 c ?_;refine ⟨by decide,q0U _,by decide,?_⟩;rw [z2c];refine q0m (ι:=Unit) (λ_=>[(0,rI (v.tdiv 256)),(3,.bld 0 .u8 1)]) (λ_=>[.row .u8 [byteOf v]]) (λ_=>0) (λ_=>True) () trivial rfl ?_ ?_
 . with_reducible refine sxE ?_;trivial
 rintro ⟨⟩ _;refine gQ ?_;refine ⟨λh=>absurd h (by omega),λ_=> ?_⟩;unfold negB;refine ⟨λa=>⟨rfl,?_⟩,λa=> ?_⟩
 . rw [if_pos (by omega)];refine q0x 2 ?_;with_reducible refine sxE ?_
   refine cQ (q9j 2 2 (by decide) _ (by simp)) ?_;rfl
 rw [if_neg (by omega)];refine q0x 0 ?_;with_reducible refine sxE ?_
 refine cQ (q9j 2 2 (by decide) _ (by simp)) ?_;trivial
def k0z(v:Int)(t:4611686018427387904<v)(z:v<=9223372036854775807):PC Tryz.prog 55 [rI v] (.isl .u8 (intR v)):=by
 have s:intR v=elemS 2 [numS v 8]:=by unfold intR;rw [if_neg (by omega),if_neg (by omega)]
 rw [s];clear s;obtain ⟨n,rfl⟩:∃n:Nat,v=n:=⟨v.toNat,by omega⟩
 refine q0g rfl rfl ?_;have u:IntKind.i64.wrap ((n:Int).tdiv 256)=(qN n 1:Int):=by rw [show (256:Int)=((256:Nat):Int) from rfl,z3Q,wrapi (by omega)];rfl
 have h7:64<=qN n 7/\qN n 7<=127:=by unfold qN;constructor<;>omega
 have w:qN n 8=0:=by unfold qN;omega
 refine ry1 fi55 u ?_;refine ⟨by decide,q0U _,by decide,?_⟩;rw [z8W];have t:[byteOf (n:Int)]=numS n 1:=by simp [numS,byteAt]
 rw [t];refine q0m (ι:=Nat×List SObj) (λx=>[(0,rI (qN n (x.1+1):Int)),(3,.bld x.2.length .u8 (x.1+1))]) (λx=>x.2++ [.row .u8 (numS n (x.1+1))]) (λx=>8-x.1) (λx=>x.1<=7) (0,[]) (by omega) rfl ?_ ?_
 . with_reducible refine sxE ?_;trivial
 rintro ⟨j,G⟩ m;dsimp only at m;have c:(numS (n:Int) (j+1)).length=j+1:=by simp [numS]
 have y:IntKind.i64.wrap ((qN n (j+1):Int).tdiv 256)=(qN n (j+1+1):Int):=by have z:=j9t n (j+1+1);rw [show (256:Int)=((256:Nat):Int) from rfl,z3Q,<-z0y,wrapi (by omega)]
 have o:List.take (j+1) (numS (n:Int) (j+1))=numS n (j+1):=Aa (by omega);refine uQ 600 _ ?_;simp (maxSteps:=3000000) only [y,c,o,List.append_assoc,getA,getA0,setA,setA0,Ab,Ax,go_sem,↓zA,↓reduceIte,↓reduceDIte] <;>try simp only [zB]
 refine ⟨λhp=> ?_,λhz=> ?_⟩
 . have q:j+1<=7:=by
    rcases AL j 7 with h|h
    . omega
    exfalso;obtain rfl:j=7:=by omega
    have:qN n (7+1)=0:=w;omega
   refine ⟨by decide,q0U _,⟨Nat.le_refl _,by omega,by omega⟩,by decide,(j+1,G++ [.row .u8 (numS n (j+1)),.dead]),q,by dsimp only;omega,?_,?_⟩
   . dsimp only;rw [q8p (by omega),<-q1t n (j+1) (by omega),<-q2i,List.append_assoc];rfl
   with_reducible refine sxaE ?_
   exact congrArg (SV.bld (G.length+2) .u8) (by omega)
 have hz0:qN n (j+1)=0:=by omega
 have m:j=7:=by
  rcases AL j 7 with h|h
  . exfalso;have:=j0b n (show j+1<=7 by omega);omega
  omega
 subst m;have hln8:(numS (n:Int) 8).length=8:=c;have e:(numS (n:Int) 8).getD 0 Ty.u8.dflt=byteOf (qN n 7:Int):=by rw [q2i,AD,q1t n 7 (by omega)]
 have f:((byteOf (qN n 7:Int)).toNat:Int)=(qN n 7:Int):=by unfold byteOf;rw [q0U,u8w];omega
 rw [e,f];refine ⟨by omega,by omega,λa=>absurd a (by omega),λa=> ?_⟩;refine q0x G.length ?_;with_reducible refine sxaE ?_
 refine ⟨by omega,by omega,?_⟩;rw [Aa (by omega)];refine cQ (q9j 2 2 (by decide) _ (by omega)) ?_;trivial
def q9N(v:Int)(h: -9223372036854775808<=v/\v<=9223372036854775807):PC Tryz.prog 55 [rI v] (.isl .u8 (intR v)):=by
 by_cases c:v<0
 . exact j9o v c h.1
 by_cases a:v<=4611686018427387904
 . rw [q5c ⟨by omega,a⟩];exact j9d v ⟨by omega,a⟩
 exact k0z v (by omega) h.2
theorem k0w(n:Int)(hn:0<=n/\n<=100)(b:List UInt8)(c:b.length<=1048576):PC Tryz.prog 52 [rI n,.isl .u8 b] (.isl .u8 (elemS (byteOf (96+n)) [b])):=by have a:IntKind.i64.wrap (96+n)=96+n:=wrapi (by omega);refine q0g rfl rfl ?_;refine ry1 fi52 a ?_;refine cQ (q9j (byteOf (96+n)) (96+n) rfl b c) ?_;trivial
def z5e{l:List ByteArray}(hl:l.length<=64)(h:∀x∈l,x.size<=1000):(strsN l k).flatten.length<=64320:=by
 have h1:=z1i (B:=1005) (strsN l k) (λx a=>by
  unfold strsN at a;rw [Br] at a;obtain ⟨y,e,rfl⟩:=a;have c:=h y (B3 e);have f:=q0n 27 [y.data.toList];have h4:y.data.toList.length=y.size:=by simp
  simp only [Ak,Aq,Ac] at f
  omega)
 have c:(strsN l k).length<=64:=by unfold strsN;simp;omega
 have:1005* (strsN l k).length<=1005*64:=B7 _ c;omega
def shP(p:Prin):Prop:=p.1.length<=64/\(∀x∈p.1,x.size<=1000)/\p.2.size<=1000
def z6l{p:Prin}(h:shP p):(prinS p).length<=65400:=by
 obtain ⟨l,r⟩:=p;obtain ⟨e,c,m⟩:=h;dsimp only at e c m;have a:prinS (l,r)=elemS 48 [wrapS 160 0 (elemS 48 (strsN l l.length)),wrapS 160 1 (elemS 27 [r.data.toList])]:=rfl;have hf:=z5e (k:=l.length) e c;have g1:=q0n 48 (strsN l l.length);have j:=q0n 27 [r.data.toList];have g3:r.data.toList.length=r.size:=by simp
 simp only [Ak,Aq,Ac] at j;have g4:=q0o 160 0 (elemS 48 (strsN l l.length));have g5:=q0o 160 1 (elemS 27 [r.data.toList]);have f:=q0n 48 [wrapS 160 0 (elemS 48 (strsN l l.length)),wrapS 160 1 (elemS 27 [r.data.toList])];simp only [Ak,Aq,Ac,Ab] at f;rw [a];omega
theorem j6S(p:Prin)(h:shP p):PC Tryz.prog 56 [.agg (PrinT.cells p)] (.isl .u8 (prinS p)):=by
 obtain ⟨l,r⟩:=p;obtain ⟨m,e,o⟩:=h;dsimp only at m e o;have f:prinS (l,r)=elemS 48 [wrapS 160 0 (elemS 48 (strsN l l.length)),wrapS 160 1 (elemS 27 [r.data.toList])]:=rfl;generalize prinS (l,r)=ps at*;refine q0g rfl rfl ?_;refine rQ fi56 ?_;refine q2Z 3 (.slice .u8) (strsN l) (λi=>[(4,rI i)]) l.length (λ_=>True) rfl (by simp) (by simp [strsN]) rfl (λi=>rfl) ?_ λi q _=> ?_
 . with_reducible refine sxE ?_;trivial
 have j:=wsx i (by omega);have hln:=z2V q;by_cases a:i<l.length
 . have c:=q9D a;have hsz:=e _ (q1U (d:=Ty.str.dflt) a);refine gQ ?_;refine ⟨λ_=>⟨⟨by omega,a⟩,q0a (j5k _ (by omega)) ?_⟩,λh=>absurd a h⟩;refine gQ ?_;refine ⟨⟨by omega,by omega⟩,q1P [_,_] [] a trivial (by rw [c];rfl) ?_⟩;with_reducible refine sx3 j c ?_;trivial
 obtain rfl:i=l.length:=by omega
 have hf:=z5e (k:=l.length) m e;have g1:=q0n 48 (strsN l l.length);have n:=q0n 27 [r.data.toList];have g3:r.data.toList.length=r.size:=by simp
 simp only [Ak,Aq,Ac] at n;have g4:=q0o 160 0 (elemS 48 (strsN l l.length));have g5:=q0o 160 1 (elemS 27 [r.data.toList]);refine q1j 1 rfl rfl (by omega) ?_ ?_ ?_
 . with_reducible refine sxE ?_;trivial
 . with_reducible refine sxE ?_
   exact Ad _
 with_reducible refine sxE ?_
 rw [Aa (Ad _)];refine gQ ?_;refine ⟨λh=>absurd h a,λ_=>q0d (q9I _ (by omega) (by omega)) ?_⟩;refine gQ ?_;refine cR (q2P 0 (by decide) _ (by omega)) ?_;refine cR (j5k r (by omega)) ?_;refine cR (q2P 1 (by decide) _ (by omega)) ?_;refine q0Y 2 (by decide) ?_;with_reducible refine sxE ?_
 refine cR (q9I _ (by simp) (by simp only [Ak,Aq,Ac,Ab];omega)) ?_;exact f.symm
def datR(d:Pre):List UInt8:=elemS 48 [wrapS 160 0 (intR d.1),wrapS 160 1 (elemS 4 [d.2])]
def j2R(d:Pre):(datR d).length<=d.2.length+45:=by have g1:=q1S d.1;have c:=q0n 4 [d.2];simp only [Ak,Aq,Ac] at c;have g5:=q0o 160 0 (intR d.1);have g6:=q0o 160 1 (elemS 4 [d.2]);have a:=q0n 48 [wrapS 160 0 (intR d.1),wrapS 160 1 (elemS 4 [d.2])];simp only [Ak,Aq,Ac,Ab] at a;unfold datR;omega
def shD(l:List Pre):Prop:=l.length<=32/\∀d∈l,(-9223372036854775808<=(d.1:Int)/\(d.1:Int)<=9223372036854775807)/\d.2.length<=16384
def dataR(l:List Pre):List UInt8:=elemS 48 (mapN (t:=PreT) datR l l.length)
variable {l:List Pre}
def z6j(h:shD l)(i:Nat):(mapN (t:=PreT) datR l i).flatten.length<=525728:=by
 have h1:=z1i (B:=16429) (mapN (t:=PreT) datR l i) (λx a=>by
  unfold mapN at a;rw [Br] at a;obtain ⟨y,e,rfl⟩:=a;have c:=(h.2 y (B3 e)).2;have:=j2R y
  omega)
 have c:(mapN (t:=PreT) datR l i).length<=32:=by unfold mapN;simp;have:=h.1;omega
 have:16429* (mapN (t:=PreT) datR l i).length<=16429*32:=B7 _ c;omega
def z2N(h:shD l):(dataR l).length<=525740:=by have:=z6j h l.length;have:=q0n 48 (mapN (t:=PreT) datR l l.length);unfold dataR;omega
theorem j6F(l:List Pre)(h:shD l):PC Tryz.prog 61 [.isl PreT l] (.isl .u8 (dataR l)):=by
 have hl:=h.1;have hfl:=z6j h l.length;have j:dataR l=elemS 48 (mapN (t:=PreT) datR l l.length):=rfl;generalize dataR l=ps at*;refine q0g rfl rfl ?_;refine rQ fi61 ?_;refine q2Z 3 (.slice .u8) (mapN (t:=PreT) datR l) (λi=>[(4,rI i)]) l.length (λ_=>True) rfl (by simp) (by simp [mapN]) rfl (λi=>rfl) ?_ λi n _=> ?_
 . with_reducible refine sxE ?_;trivial
 have f:=wsx i (by omega);have hln:=z5l (t:=PreT) (w:=datR) n;by_cases a:i<l.length
 . have c:=z2Q (t:=PreT) (w:=datR) a;obtain ⟨m,z2⟩:=h.2 _ (q1U (d:=PreT.dflt) a);have e:datR (l.getD i PreT.dflt)=elemS 48 [wrapS 160 0 (intR (l.getD i PreT.dflt).1),wrapS 160 1 (elemS 4 [(l.getD i PreT.dflt).2])]:=rfl;have g1:=q1S (l.getD i PreT.dflt).1;have o:=q0n 4 [(l.getD i PreT.dflt).2];simp only [Ak,Aq,Ac] at o;have g5:=q0o 160 0 (intR (l.getD i PreT.dflt).1);have g6:=q0o 160 1 (elemS 4 [(l.getD i PreT.dflt).2]);refine gQ ?_;refine ⟨λ_=>⟨⟨by omega,a⟩,⟨by omega,a⟩,?_⟩,λh=>absurd a h⟩;refine cR (q9N _ m) ?_;refine cR (q2P 0 (by decide) _ (by omega)) ?_;refine cR (j0V _ (by omega)) ?_;refine cR (q2P 1 (by decide) _ (by omega)) ?_;refine q0Y 1 (by decide) ?_;with_reducible refine sxE ?_
   refine cR (q9I _ (by simp) (by simp only [Ak,Aq,Ac,Ab];omega)) ?_;refine ⟨⟨by omega,by omega⟩,q1P [_,_,_] [] a trivial (by rw [c,e];rfl) ?_⟩;with_reducible refine sx3 f c ?_;trivial
 obtain rfl:i=l.length:=by omega
 refine q1j 0 rfl rfl (by omega) ?_ ?_ ?_
 . with_reducible refine sxE ?_;trivial
 . with_reducible refine sxE ?_
   exact Ad _
 with_reducible refine sxE ?_
 rw [Aa (Ad _)];refine gQ ?_;refine ⟨λh=>absurd h a,λ_=>q0a (q9I _ (by omega) (by omega)) ?_⟩;refine gQ ?_;exact j.symm
theorem q4h(n:Int):PC Tryz.prog 13 [rI n] (rI n):=by refine q0s rfl rfl ?_;refine rQ fi13 ?_;trivial
def z6r(c:UInt8)(m:Int)(h:m=c.toNat)(n:Nat)(hn:n<=1048576):PC Tryz.prog 30 [.raw (.int .u8 m),rI n] (.isl .u8 (List.replicate n c)):=by
 subst h;refine q0g rfl rfl ?_;refine rQ fi30 ?_;refine q2Z 5 .u8 (λi=>List.replicate i c) (λi=>[(6,rI i)]) n (λ_=>True) rfl (by simp) (by simp) rfl (λi=>rfl) ?_ λi hi _=> ?_
 . with_reducible refine sxE ?_;trivial
 have f:=wsx i (by omega);have a:List.replicate (i+1) c=List.replicate i c++ [c]:=Ct;refine uQ 600 _ ?_;simp (maxSteps:=3000000) only [BQ,go_sem,↓zA,↓reduceIte,↓reduceDIte] <;>try simp only [zB]
 refine ⟨λe=> ?_,λhge=> ?_⟩
 . refine ⟨j4J c,⟨by omega,by omega⟩,q1P [.dead,.row .u8 [c]] [] e trivial (by rw [a];simp) ?_⟩;simp (maxSteps:=3000000) only [f,a,Ab,BQ,go_sem,↓zA,↓reduceIte,↓reduceDIte] <;>try simp only [zB]
 obtain rfl:i=n:=by omega
 refine ⟨⟨Ad _,by omega⟩,Aa (by simp)⟩
def p17(s:ByteArray):Prin:=([s],⟨#[82]⟩)
def q7w(s:ByteArray)(a:s.size<=140737488355328):PC Tryz.prog 29 [rS s] (.agg (PrinT.cells (p17 s))):=by
 refine q0g rfl rfl ?_;refine rQ fi29 ?_;simp (maxSteps:=3000000) only [p17,go_sem,↓zA,↓reduceIte,↓reduceDIte] <;>try simp only [zB]
 exact a
def s40(l:List ByteArray)(j:Nat):Bool:=decide (((l.getD j (Ty.dflt .str)).size:Int)<=40)
def shortB(p:Prin):Bool:=(decide ((p.1.length:Int)<=6) && decide ((p.2.size:Int)<=40)) && allN p.1.length (s40 p.1)
def j3p(p:Prin)(o:PrinT.ok p):PC Tryz.prog 22 [.agg (PrinT.cells p)] (rB (shortB p)):=by
 obtain ⟨l,r⟩:=p;have hl:l.length<=1125899906842624:=o.1.1;have n:shortB (l,r)=((decide ((l.length:Int)<=6) && decide ((r.size:Int)<=40)) && allN l.length (s40 l)):=rfl;refine q0s rfl rfl ?_;refine rQ fi22 ?_;refine q1p (λi=>[(3,.raw (.int .i64 ((i:Nat):Int)))]) (l.length) (λj=>(s40 l) j=true) (by first|decide|simp) (λi=>rfl) ?_ λi hi a=> ?_
 . (with_reducible refine sxE ?_<;>try exact True.intro)
   all_goals (try rfl)
 have m:=wsx i (by omega);refine gQ ?_;have e:i< (l.length)->(s40 l) i=false->allN (l.length) (s40 l)=false:=λc s=>q0u c s;have fin:¬i< (l.length)->allN (l.length) (s40 l)=true:=λh=>q0v λj hj=>a j (by omega);try dsimp only at e fin a
 refine ⟨λc=>⟨⟨by omega,c⟩,λh=> ?_,λh=> ?_⟩,λf=> ?_⟩
 . rw [n,e c (decide_eq_false (λq=>absurd h (CQ.2 q))),CJ]
 . refine ⟨c,q1o a (decide_eq_true (CQ.1 h)),⟨[],rfl⟩,?_⟩;with_reducible refine sx1 m ?_;trivial
 rw [n,fin f,Cq];exact ⟨λh=>by rw [decide_eq_true h,BL],λh=>by rw [decide_eq_false h,CK]⟩
def j3Y(l f:List Pre)(y:(Ty.slice PreT).ok l):PC Tryz.prog 89 [.isl PreT l,.isl PreT f] (rB (decide (l=f))):=by
 have hlen:l.length<=1125899906842624:=y.1;have key:=sameN l f PreT.dflt;refine q0s rfl rfl ?_;refine rQ fi89 ?_;refine ⟨λh=> ?_,λh=> ?_⟩
 . rw [decide_eq_false (λe=>h (by rw [e]))]
 have t:l.length=f.length:=by omega
 refine q1p (λi=>[(5,.raw (.int .i64 ((i:Nat):Int)))]) (l.length) (λj=>(eqAt l f PreT.dflt) j=true) (by first|decide|simp) (λi=>rfl) ?_ λi hi m=> ?_
 . (with_reducible refine sxE ?_<;>try exact True.intro)
   all_goals (try rfl)
 have x:=wsx i (by omega);refine gQ ?_;have o:i< (l.length)->(eqAt l f PreT.dflt) i=false->allN (l.length) (eqAt l f PreT.dflt)=false:=λa z=>q0u a z;have fin:¬i< (l.length)->allN (l.length) (eqAt l f PreT.dflt)=true:=λh=>q0v λj hj=>m j (by omega);try dsimp only at o fin m
 have n:eqAt l f PreT.dflt i=decide (l.getD i PreT.dflt=f.getD i PreT.dflt):=rfl;have c:i<l.length->l.getD i PreT.dflt≠f.getD i PreT.dflt->decide (l=f)=false:=λa u=>decide_eq_false (λe=>by have:=o a (n.trans (decide_eq_false u));rw [(key.1 e).2] at this;cases this);refine ⟨λa=>⟨⟨by omega,a⟩,⟨by omega,by omega⟩,λw=>⟨⟨by omega,a⟩,⟨by omega,by omega⟩,λq=> ?_,λq=>⟨a,q1o m ?_,⟨[],rfl⟩,?_⟩⟩,λw=> ?_⟩,λs=> ?_⟩
 . rw [c a (λe=>q (by rw [e]))]
 . rw [q3B] at q;exact n.trans (decide_eq_true (Prod.ext w q))
 . with_reducible refine sx1 x ?_;trivial
 . rw [c a (λe=>w (by rw [e]))]
 rw [decide_eq_true (key.2 ⟨t,fin s⟩)]
instance instAut1:DecidableEq (Int×List Pre):=instDecidableEqProd
instance instAut2:DecidableEq (Key×Int×List Pre):=instDecidableEqProd
instance instAut3:DecidableEq (Int×Key×Int×List Pre):=instDecidableEqProd
instance instAut4:DecidableEq (Int×Int×Key×Int×List Pre):=instDecidableEqProd
instance instAut5:DecidableEq (List UInt8×Int×Int×Key×Int×List Pre):=instDecidableEqProd
instance instAutD:DecidableEq Aut:=(instDecidableEqProd:DecidableEq (Prin×List UInt8×Int×Int×Key×Int×List Pre))
theorem z2v(a b:Aut)(e:AutT.ok a):PC Tryz.prog 17 [.agg (AutT.cells a),.agg (AutT.cells b)] (rB (decide (a=b))):=by
 have c1:=k1q a.1 b.1 e.1;have c2:=k0X a.2.2.2.2.1 b.2.2.2.2.1;have c3:=j3Y a.2.2.2.2.2.2 b.2.2.2.2.2.2 e.2.2.2.2.2.2;obtain ⟨c,s,t,m,k,q,d⟩:=a;obtain ⟨c',s',t',m',k',q',d'⟩:=b;dsimp only at c1 c2 c3;refine q0s rfl rfl ?_;refine rQ fi17 ?_<;>try with_reducible exact True.intro
 repeat' (first
  | (refine q0a (c1) ?_;refine uQ 600 _ ?_;simp (maxSteps:=3000000) only [go_sem,↓zA,↓reduceIte,↓reduceDIte] <;>try simp only [zB])
  | (refine q0d (c1) ?_;refine uQ 600 _ ?_;simp (maxSteps:=3000000) only [go_sem,↓zA,↓reduceIte,↓reduceDIte] <;>try simp only [zB])
  | (refine q0i (c1) ?_;refine uQ 600 _ ?_;simp (maxSteps:=3000000) only [go_sem,↓zA,↓reduceIte,↓reduceDIte] <;>try simp only [zB])
  | (refine q0a (c2) ?_;refine uQ 600 _ ?_;simp (maxSteps:=3000000) only [go_sem,↓zA,↓reduceIte,↓reduceDIte] <;>try simp only [zB])
  | (refine q0d (c2) ?_;refine uQ 600 _ ?_;simp (maxSteps:=3000000) only [go_sem,↓zA,↓reduceIte,↓reduceDIte] <;>try simp only [zB])
  | (refine q0i (c2) ?_;refine uQ 600 _ ?_;simp (maxSteps:=3000000) only [go_sem,↓zA,↓reduceIte,↓reduceDIte] <;>try simp only [zB])
  | (refine q0a (c3) ?_;refine uQ 600 _ ?_;simp (maxSteps:=3000000) only [go_sem,↓zA,↓reduceIte,↓reduceDIte] <;>try simp only [zB])
  | (refine q0d (c3) ?_;refine uQ 600 _ ?_;simp (maxSteps:=3000000) only [go_sem,↓zA,↓reduceIte,↓reduceDIte] <;>try simp only [zB])
  | (refine q0i (c3) ?_;refine uQ 600 _ ?_;simp (maxSteps:=3000000) only [go_sem,↓zA,↓reduceIte,↓reduceDIte] <;>try simp only [zB])
  | (with_reducible refine And.intro ?_ ?_)
  | (with_reducible intro _))
 all_goals (simp_all [q3B])
set_option maxHeartbeats 40000000
def ordA(a b:Aut):Int:=if cmpI a.2.2.1 b.2.2.1=0 then cmpI a.2.2.2.1 b.2.2.2.1 else cmpI a.2.2.1 b.2.2.1
theorem k0p(a b:Aut)(o1 x:SObj):PCH Tryz.prog 97 [.agg (AutT.cells a),.agg (AutT.cells b),.csl 2 .u8 0 0 2] (rI (ordA a b)) [o1,x,.cells 122 [.fn 98 [] [],.fn 99 [] []]]:=by
 have c1:=z8d a;have c2:=z9H a;have c3:=z8d b;have y:=z9H b;have z:=j4L a.2.2.1 b.2.2.1;have C:=j4L a.2.2.2.1 b.2.2.2.1;unfold ordA;generalize cmpI a.2.2.1 b.2.2.1=D at*;generalize cmpI a.2.2.2.1 b.2.2.2.1=A at*;obtain ⟨n,s,t,m,k,q,d⟩:=a;obtain ⟨n',s',t',m',k',q',d'⟩:=b;dsimp only at*;refine j1v rfl ?_;refine rQ fi97 ?_;refine q1p (λi=>[(12,rI (i:Nat))]) 2 (λi=>(i=0->D=0)/\(i=1->A=0)) (by first|decide|simp) (λi=>rfl) ?_ λi hi c=> ?_
 . with_reducible refine sxE ?_;trivial
 have f:=wsx i (by omega);by_cases o:i=0
 . subst o;have e:((0:Nat):Int)=0:=rfl;have j:((0:Int) < ((2:Nat):Int))=True:=eq_true (by decide);refine gy2 e j ?_;refine cR c1 ?_;refine cR c3 ?_;refine cR z ?_;refine ⟨λh=>⟨by rw [if_neg h],[_,_],rfl⟩,λh=>⟨by decide,q1o c ⟨λ_=>h,λh=>absurd h (by decide)⟩,⟨[],rfl⟩,?_⟩⟩;with_reducible refine sx1 f ?_
   rfl
 have u:=(c 0 (by omega)).1 rfl;rw [if_pos u];by_cases B:i=1
 . subst B;have e:((1:Nat):Int)=1:=rfl;have j:((1:Int) < ((2:Nat):Int))=True:=eq_true (by decide);refine gy2 e j ?_;refine cR c2 ?_;refine cR y ?_;refine cR C ?_;refine ⟨λh=>⟨rfl,[_,_],rfl⟩,λh=>⟨by decide,q1o c ⟨λh=>absurd h (by decide),λ_=>h⟩,⟨[],rfl⟩,?_⟩⟩;with_reducible refine sx1 f ?_
   rfl
 obtain rfl:i=2:=by omega
 have w:=(c 1 (by omega)).2 rfl;rw [w];refine gQ ?_;exact ⟨λh=>absurd h (by decide),λ_=>⟨rfl,[_,_],rfl⟩⟩
def z7m(a b:Aut):PC Tryz.prog 25 [.agg (AutT.cells a),.agg (AutT.cells b)] (rI (ordA a b)):=by have h:=λo1 c=>k0p a b o1 c;obtain ⟨n,s,t,m,k,q,d⟩:=a;obtain ⟨n',s',t',m',k',q',d'⟩:=b;refine q0s rfl rfl ?_;refine rQ fi25 ?_;refine j1O (h _ _) ?_;refine gQ ?_;trivial
def prin17(s:ByteArray)(h:s.size<=1000):PrinT.ok (p17 s):=by refine ⟨⟨by show (1:Nat)<=_;decide,λx a=> ?_⟩,by show ByteArray.size ⟨#[82]⟩<=140737488355328;decide⟩;simp [p17] at a;subst a;show x.size<=_;omega
def oka17:AutT.ok a17:=⟨prin17 ⟨#[97]⟩ (by decide),⟨by decide,λ_ _=>trivial⟩,trivial,trivial,⟨trivial,trivial,⟨by decide,λ_ _=>trivial⟩⟩,trivial,⟨by decide,λx a=>by cases a⟩⟩
def okk17:KeyT.ok (1,0,k16):=⟨trivial,trivial,⟨by decide,λ_ _=>trivial⟩⟩
def uok11:uOk (1,0,k16) 11=true:=by kernel_rfl
theorem kenc:PC Tryz.prog 10 [.agg (AutT.cells a17)] (.tup [.isl .u8 pln17,rI 0]):=by have h:=q8E a17 oka17;rw [va17,if_pos rfl,if_pos rfl,q7z] at h;exact h
theorem kseal:PC Tryz.prog 18 [.agg (KeyT.cells (1,0,k16)),rI 11,.agg (AutT.cells a17),.isl .u8 cf3] (.tup [.agg [rI 1,rI 0,.isl .u8 (ct17++tg11)],rI 0]):=by
 have h:=j6T (1,0,k16) a17 oka17 11 cf3 1 0 (ct17++tg11) 0 λ_=>by have a:=j2I 0 k16 11 cf3 (autS a17) okk17 uok11 (by decide) (by rw [q7z];decide);rw [q7z,se17] at a;rw [q7z];exact a
 rw [va17,if_pos rfl,if_pos rfl] at h;exact h
def kopen:PC Tryz.prog 20 [.agg (KeyT.cells (1,0,k16)),rI 11,.agg [rI 1,rI 0,.isl .u8 (ct17++tg11)]] (.tup [.agg (AutT.cells a17),rI 0]):=by have a:=z5d 0 k16 11 1 0 (ct17++tg11) okk17 uok11 (by decide);have c:=k1c (1,0,k16) 11 cf3 pln17 uok11 (by decide) (by decide);rw [se17] at c;rw [c] at a;have e:=j8l (1,0,k16) 11 1 0 (ct17++tg11) pln17 (by decide) a;rw [rd17] at e;exact e
def kopex:PC Tryz.prog 20 [.agg (KeyT.cells (1,0,k16)),rI 7,.agg [rI 1,rI 0,.isl .u8 (ct17++tg11)]] (.tup [zAut,rI 10]):=by have a:=z5d 0 k16 7 1 0 (ct17++tg11) okk17 (by kernel_rfl) (by decide);rw [opx17] at a;exact j8S (1,0,k16) 7 1 0 (ct17++tg11) 10 (by decide) [] a
def rdx17:autD [98,0]=none:=by kernel_rfl
def kdec:PC Tryz.prog 15 [.isl .u8 [98,0]] (.tup [zAut,rI 6]):=by have h:=q7M [98,0] (by decide);rw [rdx17] at h;exact h
def a18:Aut:=(p17 ⟨#[97]⟩,[],10,8,nKey,1,[])
def kcmp:PC Tryz.prog 25 [.agg (AutT.cells a17),.agg (AutT.cells a18)] (rI (-1)):=by
 have h:=z7m a17 a18;have e:ordA a17 a18= -1:=by kernel_rfl
 rw [e] at h;exact h
def kchk(s:ByteArray)(c:s.size<=1000)(a:Int)(n:Int)(h:chkS a17 (p17 s) a 5=n):PC Tryz.prog 23 [.agg (AutT.cells a17),.agg (PrinT.cells (p17 s)),rI a,rI 5] (rI n):=by rw [<-h];exact j2E a17 oka17 (p17 s) (prin17 s c) a 5
def chk0:chkS a17 (p17 ⟨#[97]⟩) 15 5=0:=by kernel_rfl
def chk1:chkS a17 (p17 ⟨#[97]⟩) 16 5=181:=by kernel_rfl
def chk2:chkS a17 (p17 ⟨#[98]⟩) 15 5=180:=by kernel_rfl
abbrev w17(m:Int):SV:=.agg [.isl .str [⟨#[97]⟩],.raw (.string ⟨#[82]⟩),.raw (.slice none 0 0),.raw (.int .i64 10),.raw (.int .i64 m),.raw (.int .i64 0),.raw (.int .i64 0),.raw (.slice none 0 0),.raw (.int .i64 1),.raw (.slice none 0 0)]
abbrev kk17:SV:=.agg [.raw (.int .i64 1),.raw (.int .i64 0),.isl .u8 [1,1,1,1,1,1,1,1,1,1,1,1,1,1,1,1]]
abbrev v17:SV:=.agg [.isl .str [⟨#[97]⟩],.raw (.string ⟨#[82]⟩),.isl .u8 [],.raw (.int .i64 10),.raw (.int .i64 7),.raw (.int .i64 0),.raw (.int .i64 0),.isl .u8 [],.raw (.int .i64 1),.isl PreT []]
abbrev s17:SV:=.agg [.raw (.int .i64 1),.raw (.int .i64 0),.isl .u8 (ct17++tg11)]
def kenc1:PC Tryz.prog 10 [w17 7] (.tup [.isl .u8 pln17,rI 0]):=by refine kenc.arg ?_;simp (maxSteps:=3000000) only [a17,go_sem,↓zA,↓reduceIte,↓reduceDIte] <;>try simp only [zB]
def kseal1:PC Tryz.prog 18 [kk17,rI 11,w17 7,.isl .u8 [3,3,3,3,3,3,3,3,3,3,3,3,3,3,3,3]] (.tup [s17,rI 0]):=by refine kseal.arg ?_;simp (maxSteps:=3000000) only [a17,k16,cf3,go_sem,↓zA,↓reduceIte,↓reduceDIte] <;>try simp only [zB]
def kopen1:PC Tryz.prog 20 [kk17,rI 11,s17] (.tup [v17,rI 0]):=kopen
def kopex1:PC Tryz.prog 20 [kk17,rI 7,s17] (.tup [zAut,rI 10]):=kopex
def ksame1:PC Tryz.prog 17 [w17 7,v17] (rB true):=by have h:=z2v a17 a17 oka17;rw [decide_eq_true rfl] at h;refine h.arg ?_;simp (maxSteps:=3000000) only [a17,go_sem,↓zA,↓reduceIte,↓reduceDIte] <;>try simp only [zB]
def kcmp1:PC Tryz.prog 25 [w17 7,w17 8] (rI (-1)):=by refine kcmp.arg ?_;simp (maxSteps:=3000000) only [a17,a18,nKey,p17,go_sem,↓zA,↓reduceIte,↓reduceDIte] <;>try simp only [zB]
def kchk1(s:ByteArray)(c:s.size<=1000)(a:Int)(n:Int)(h:chkS a17 (p17 s) a 5=n):PC Tryz.prog 23 [w17 7,.agg [.isl .str [s],.raw (.string ⟨#[82]⟩)],rI a,rI 5] (rI n):=by refine (kchk s c a n h).arg ?_;simp (maxSteps:=3000000) only [a17,p17,go_sem,↓zA,↓reduceIte,↓reduceDIte] <;>try simp only [zB]
def z3s:PC Tryz.prog 9 [] (rB true):=by
 have a:pln17.length=45:=rfl;have h0:pln17.getD 0 0=98:=rfl;refine q0g rfl rfl ?_;refine rQ fi9 ?_;refine q0a (q7w ⟨#[97]⟩ (by decide)) ?_;refine uQ 600 _ ?_;simp (maxSteps:=3000000) only [p17,go_sem,↓zA,↓reduceIte,↓reduceDIte] <;>try simp only [zB]
 refine cQ (z6r 1 1 rfl 16 (by decide)) ?_;refine cQ kenc1 ?_;refine q0i (z6r 3 3 rfl 16 (by decide)) ?_;refine gQ ?_;refine q0i kseal1 ?_;refine gQ ?_;refine cQ kopen1 ?_;refine cQ kopex1 ?_;refine ⟨⟨by decide,by decide⟩,q0x 5 ?_⟩;with_reducible refine sxE ?_
 refine cQ kdec ?_;refine cQ (q4h _) ?_;refine cQ (q4h _) ?_;refine cQ (q4h _) ?_;refine ⟨λ_=>⟨λ_=>⟨by rw [a];decide,λ_=>q0a ksame1 ?_,λh=>absurd (by decide) h⟩,λh=>absurd (by rw [a];rfl) h⟩,λh=>absurd (by decide) h⟩;refine gQ ?_;refine cQ (q4h _) ?_;refine cQ (q4h _) ?_;refine cQ kcmp1 ?_;refine q0d (q7w ⟨#[97]⟩ (by decide)) ?_;refine uQ 600 _ ?_;simp (maxSteps:=3000000) only [p17,go_sem,↓zA,↓reduceIte,↓reduceDIte] <;>try simp only [zB]
 refine cR (kchk1 ⟨#[97]⟩ (by decide) 15 _ chk0) ?_;refine cR (q4h _) ?_;refine q0d (q7w ⟨#[97]⟩ (by decide)) ?_;refine uQ 600 _ ?_;simp (maxSteps:=3000000) only [p17,go_sem,↓zA,↓reduceIte,↓reduceDIte] <;>try simp only [zB]
 refine cR (kchk1 ⟨#[97]⟩ (by decide) 16 _ chk1) ?_;refine cR (q4h _) ?_;refine q0d (q7w ⟨#[98]⟩ (by decide)) ?_;refine uQ 600 _ ?_;simp (maxSteps:=3000000) only [p17,go_sem,↓zA,↓reduceIte,↓reduceDIte] <;>try simp only [zB]
 refine cR (kchk1 ⟨#[98]⟩ (by decide) 15 _ chk2) ?_;refine cR (q4h _) ?_;trivial
set_option maxHeartbeats 4000000
def q7o(a:Int)(c:List UInt8)(ha:0<=a/\a<=4611686018427387904)(hc:c.length<=65536):datS (a,c)=tlv 48 (sufS [intS a,elemS 4 [c]] 0 2)/\(sufS [intS a,elemS 4 [c]] 0 2).length<=c.length+40:=by
 have i1:=q1g a;obtain ⟨c1,m,_⟩:=q5C (v:=a) (by omega);have n:elemS 4 [c]=tlv 4 c:=q0A (by omega);have s:=q0n 4 [c];simp only [Ak,Aq,Ac] at s;have w0:=q0o 160 0 (intS a);have w2:=q0o 160 1 (elemS 4 [c]);have u:wrapS 160 0 (intS a)≠ []:=by rw [show (0:Int)=((0:Nat):Int) from rfl,q4q (by omega) (by omega) (by rw [m];exact q1q)];exact q1q
 have t:wrapS 160 1 (elemS 4 [c])≠ []:=by rw [show (1:Int)=((1:Nat):Int) from rfl,q4q (by omega) (by omega) (by rw [n];exact q1q)];exact q1q
 have f:(tagN [intS a,elemS 4 [c]] 2).flatten=sufS [intS a,elemS 4 [c]] 0 2:=q5k [intS a,elemS 4 [c]];have h:tagN [intS a,elemS 4 [c]] 2= [wrapS 160 0 (intS a),wrapS 160 1 (elemS 4 [c])]:=by simp [tagN,Be]
 have q:(sufS [intS a,elemS 4 [c]] 0 2).length<=c.length+40:=by rw [<-f,h];simp only [Ak,Aq,Ac,Ab];omega
 refine ⟨?_,q⟩;have e:allN 2 (fullAt [wrapS 160 0 (intS a),wrapS 160 1 (elemS 4 [c])])=true:=by
  refine q0v λj o=> ?_;match j,o with
  |0,_=>exact decide_eq_true u
  |1,_=>exact decide_eq_true t
 show wholeS (tagN [intS a,elemS 4 [c]] 2)=_;rw [h];unfold wholeS;rw [show ([wrapS 160 0 (intS a),wrapS 160 1 (elemS 4 [c])]:List (List UInt8)).length=2 from rfl,if_pos e,<-h,q1u (by rw [f];omega),f]
theorem j5E(a:Int)(c:List UInt8)(q:0<=a/\a<=4611686018427387904)(x:c.length<=65536)(r:List UInt8):datP (datS (a,c)++r)= .ok ((a,c),(datS (a,c)).length):=by
 have i1:=q1g a;obtain ⟨c1,h,_⟩:=q5C (v:=a) (by omega);have m:elemS 4 [c]=tlv 4 c:=q0A (by omega);have u:=q0n 4 [c];simp only [Ak,Aq,Ac] at u;have f:∀j,(([intS a,elemS 4 [c]]:List (List UInt8)).getD j []).length<=16777215:=λj=>by
  match j with
  |0=>show (intS a).length<=_;omega
  |1=>show (elemS 4 [c]).length<=_;omega
  |j+2=>exact Aj _
 obtain ⟨s,hin⟩:=q7o a c q x;rw [s];refine q4g (by omega) ?_ r;have o:intP (([intS a,elemS 4 [c]]:List (List UInt8)).getD 0 [])= .ok (a,(([intS a,elemS 4 [c]]:List (List UInt8)).getD 0 []).length):=full (e:=intS a) (q6o (by omega));have w:octP (([intS a,elemS 4 [c]]:List (List UInt8)).getD 1 [])= .ok (c,(([intS a,elemS 4 [c]]:List (List UInt8)).getD 1 []).length):=full (e:=elemS 4 [c]) (z4x (by omega));have y:([intS a,elemS 4 [c]]:List (List UInt8)).getD 0 []≠ []:=by show intS a≠ [];rw [h];exact q1q
 have t:([intS a,elemS 4 [c]]:List (List UInt8)).getD 1 []≠ []:=by show elemS 4 _≠ [];rw [m];exact q1q
 unfold datIn;refine q2s (n:=0) (k:=1) (q1Q f (by omega) y o) ?_;refine q2s (n:=1) (k:=0) (q1Q f (by omega) t w) ?_;rfl
def j6D{p:Pre}(h:vPre1 p=true):((0:Int)<=p.1/\p.1<=(2147483647:Int))/\p.2.length<=16384:=by simp only [vPre1,mIn,Ai,decide_eq_true_eq] at h;exact ⟨h.1,by omega⟩
def q8g(h:vPre l=true):l.length<=16/\∀p∈l,((0:Int)<=p.1/\p.1<=(2147483647:Int))/\p.2.length<=16384:=by simp only [vPre,Ai,decide_eq_true_eq] at h;refine ⟨by omega,λp c=> ?_⟩;obtain ⟨j,a,rfl⟩:=AM c;have:=q2H.1 h.2 j a;unfold preAt at this;rw [Ae,Af a] at this;exact j6D this
def q5z{p:Pre}(h:((0:Int)<=p.1/\p.1<=(2147483647:Int))/\p.2.length<=16384):datS p≠ []/\(∀r,datP (datS p++r)= .ok (p,(datS p).length))/\(datS p).length<=16434:=by
 obtain ⟨a,c⟩:=p;obtain ⟨f,m⟩:=h;have j:(0:Int)<=a/\a<=4611686018427387904:=⟨f.1,A5 f.2 (by decide)⟩
 dsimp only at m;obtain ⟨e,hl⟩:=q7o a c j (by omega);refine ⟨by rw [e];exact q1q,j5E a c j (by omega),?_⟩;rw [e,q0J];have:=q2b (sufS [intS a,elemS 4 [c]] 0 2).length;omega
def q4p(h:vPre l=true):dataS l=tlv 48 (l.map datS).flatten/\(l.map datS).flatten.length<=16434*l.length:=by
 obtain ⟨a,e⟩:=q8g h;have m:(l.map datS).flatten.length<=16434*l.length:=flat_len datS 16434 l λx n=>(q5z (e x n)).2.2;have f:mapN (t:=PreT) datS l l.length=l.map datS:=by unfold mapN;rw [Aw]
 refine ⟨?_,m⟩;unfold dataS wholeS;rw [if_pos a,f,AY,if_pos,q1u (by omega)];refine q0v λj c=>decide_eq_true ?_;rw [Ae,Af (by rw [AY];exact c),AJ];exact (q5z (e _ (Bl c))).1
def j2U(h:vPre l=true)(r:List UInt8):dataP (dataS l++r)= .ok (l,(dataS l).length):=by obtain ⟨a,f⟩:=q8g h;obtain ⟨e,hl⟩:=q4p h;rw [e];exact q4g (by omega) (z0o l 16 a λs c=>⟨(q5z (f s c)).1,(q5z (f s c)).2.1⟩) r
def preO(l:List Pre):List UInt8:=if l.length=0 then [] else dataS l
def k1m(h:vPre l=true):(if preO l= [] then l= [] else dataP (preO l)= .ok (l,(preO l).length))/\(preO l).length<=262960:=by
 obtain ⟨h16,hv⟩:=q8g h;obtain ⟨e,hl⟩:=q4p h;unfold preO;by_cases a:l.length=0
 . simp [a,AH.1 a]
 rw [if_neg a,if_neg (by rw [e];exact q1q)];refine ⟨full (j2U h),?_⟩;rw [e,q0J];have:=q2b (l.map datS).flatten.length;omega
def k0R(h:0<=v/\v<=4611686018427387904):cstP v (intS v)= .ok ((),(intS v).length):=by unfold cstP;rw [full (q6o h)];simp
def z4v(h:0<=v/\v<=4611686018427387904):intS v≠ []:=by obtain ⟨c1,a,_⟩:=q5C h;rw [a];exact q1q
theorem q5L{k:Key}(h:vKey k=true):keyOk k:=by
 obtain ⟨a,v,c⟩:=k;simp only [vKey,keyLen,Ai,decide_eq_true_eq] at h;change Int at a v;obtain ⟨f,j,n,m⟩:=h;refine ⟨?_,⟨n,A5 (show v<=(65535:Int) from m) (by decide)⟩,?_⟩
 . split at f
   . rename_i e;rw [e];decide
   split at f
   . rename_i e;rw [e];decide
   exact absurd rfl f
 split at j
 . omega
 split at j
 . omega
 omega
def octO(b:List UInt8):List UInt8:=if b.length=0 then [] else elemS 4 [b]
def keyO(k:Key):List UInt8:=if k.1=0 then [] else keyS k
def autL(a:Aut):List (List UInt8):=[intS 5,prinS a.1,octO a.2.1,intS a.2.2.2.1,timeS a.2.2.1,keyO a.2.2.2.2.1,intS a.2.2.2.2.2.1,preO a.2.2.2.2.2.2]
def z0H{t:UInt8}{l a:List (List UInt8)}(h:l.flatten=a.flatten):elemS t l=elemS t a:=by unfold elemS;rw [h]
def j6B(a:Aut):autS a=wrapS 96 2 (tagS (autL a)):=by obtain ⟨c,s,t,m,k,q,d⟩:=a;have f (n:Int):wrapS 160 n []= []:=if_neg λh=>h.2.2 rfl;unfold autS tagS;congr 1;refine z0H ?_;show _=(tagN (autL (c,s,t,m,k,q,d)) 8).flatten;unfold encL sumE subE datE tagN;simp only [Be,List.range_zero,Ar,By,AB,BJ,Bw,Ak,Aq,Ac,List.append_assoc,autL,octO,keyO,preO,AD,AK];by_cases e:s.length=0<;>by_cases j:k.1=0<;>by_cases o:d.length=0<;>simp [e,j,o,f]
def z4I{l:List (List UInt8)}{v:α}{n:Nat}(e:∀j,(l.getD j []).length<=16777215)(hn:n+k<=30)(a:if l.getD n []= [] then v=d else p (l.getD n [])= .ok (v,(l.getD n []).length)/\fit v=true):
 optQ n p d fit (sufS l n (k+1))= .ok (v,(wrapS 160 (n:Nat) (l.getD n [])).length)/\(sufS l n (k+1)).drop (wrapS 160 (n:Nat) (l.getD n [])).length=sufS l (n+1) k:=by
 rw [q0S,B2];refine ⟨?_,rfl⟩;rw [q3J (by omega) (e n)];unfold optQ mayP;by_cases c:l.getD n []= []
 . rw [if_pos c] at a;rw [if_pos c,Ar,z5M l e k (n+1) (by omega) n (by omega),a];rfl
 rw [if_neg c] at a;rw [if_neg c,z1J,if_pos rfl,q4g (e n) a.1];simp only;rw [if_pos a.2]
def q9Q(h:vDat l=true):vPre l=true/\l.length<=16/\∀p∈l,p.2.length<=4096:=by
 simp only [vDat,Ai,decide_eq_true_eq] at h;have c:∀j,j<l.length->datAt l j=true:=q2H.1 h.1;refine ⟨?_,by omega,λp e=> ?_⟩
 . unfold vPre;rw [decide_eq_true h.2,BL];refine q0v λj a=> ?_;have:=c j a;simp only [datAt,Ai,decide_eq_true_eq] at this;unfold preAt vPre1;rw [this.1,BL];exact decide_eq_true (by omega)
 obtain ⟨j,a,rfl⟩:=AM e;have:=c j a;simp only [datAt,Ai,decide_eq_true_eq] at this;rw [Ae,Af a] at this;have h2:(((l[j]).2.length:Nat):Int)<=4096:=this.2;omega
def z5i{a:Aut}(h:vAut a=true):autS a=tlv (appB 2) (tlv 48 (sufS (autL a) 0 8))/\(∀j,((autL a).getD j []).length<=16777215)/\(sufS (autL a) 0 8).length<=1048576/\∀r,autP (autS a++r)= .ok (a,(autS a).length):=by
 have Y:=j6B a;obtain ⟨c,s,t,m,k,q,d⟩:=a;simp only [vAut,Ai,decide_eq_true_eq] at h;obtain ⟨H,S,Z,U,I,h6,W⟩:=h;change Int at t m q;have Q:(0:Int)<=t/\t<=1099511627776:=by simpa only [vTime,mIn,Ai,decide_eq_true_eq] using Z
 have P:(0:Int)<=m/\m<=999999:=by simpa only [mIn,Ai,decide_eq_true_eq] using U
 have N:(0:Int)<=q/\q<=4294967295:=by simpa only [mIn,Ai,decide_eq_true_eq] using h6
 obtain ⟨f,rfl⟩:∃n:Nat,t=n:=⟨t.toNat,by omega⟩
 have h2':s.length<=64:=by have:((s.length:Nat):Int)<=64:=S;omega
 obtain ⟨K,F,w⟩:=j2b H;have e1:prinE c=prinS c:=if_pos H;rw [e1] at K F w;obtain ⟨X,_,_⟩:=q9Q W;obtain ⟨z,C⟩:=k1m X;have y:k=nKey\/(keyOk k/\k.1≠0):=by simp only [vSub,BF,Ai,decide_eq_true_eq] at I;refine orMap I id λx=>⟨q5L x.1,λe=> ?_⟩;have:=x.1;obtain ⟨k1,k2,k3⟩:=k;simp only at e;subst e;simp [vKey,keyLen] at this
 have A:(if keyO k= [] then k=nKey else keyP (keyO k)= .ok (k,(keyO k).length)/\(!decide (k.1=0))=true)/\(keyO k).length<=65600:=by
  rcases y with rfl| ⟨y,G⟩
  . exact ⟨rfl,Aj _⟩
  unfold keyO;rw [if_neg G,if_neg (z8v y)];exact ⟨⟨full (j5F y),by simpa using G⟩,j5P y⟩
 have E:(if octO s= [] then s= [] else octP (octO s)= .ok (s,(octO s).length)/\decide (0< (s.length:Int))=true)/\(octO s).length<=80:=by
  unfold octO;by_cases u:s.length=0
  . rw [if_pos u];exact ⟨by rw [if_pos rfl];exact AH.1 u,Aj _⟩
  have:=q2b s.length;rw [if_neg u,q0A (by omega),if_neg q1q,<-q0A (by omega)];refine ⟨⟨full (z4x (by omega)),decide_eq_true (by omega)⟩,?_⟩;rw [q0A (by omega),q0J];omega
 have D:if preO d= [] then d= [] else dataP (preO d)= .ok (d,(preO d).length)/\decide (0< (d.length:Int))=true:=by
  by_cases u:preO d= []
  . rw [if_pos u] at z⊢;exact z
  rw [if_neg u] at z⊢;refine ⟨z,decide_eq_true ?_⟩;have:d.length≠0:=λe=>u (if_pos e);omega
 have J:(0:Int)<=m/\m<=4611686018427387904:=⟨P.1,A5 P.2 (by decide)⟩
 have L:(0:Int)<=q/\q<=4611686018427387904:=⟨N.1,A5 N.2 (by decide)⟩
 have i5:=q1g 5;have im:=q1g m;have iq:=q1g q;have tt:(timeS (f:Int)).length<=20:=by
  rw [q4n Q,q0J];have:=q2b (numS (f:Int) 6).length;have h9:(numS (f:Int) 6).length=6:=by simp [numS]
  omega
 have o:∀j,((autL (c,s,(f:Int),m,k,q,d)).getD j []).length<=16777215:=λj=>by
  match j with
  |0=>show (intS 5).length<=_;omega
  |1=>show (prinS c).length<=_;omega
  |2=>exact Ao E.2 (by omega)
  |3=>show (intS m).length<=_;omega
  |4=>show (timeS (f:Int)).length<=_;omega
  |5=>exact Ao A.2 (by omega)
  |6=>show (intS q).length<=_;omega
  |7=>exact Ao C (by omega)
  |j+8=>exact Aj _
 have O:(sufS (autL (c,s,(f:Int),m,k,q,d)) 0 8).length<=1048576:=by refine Ao (z4q 8 0) ?_;have a1:=E.2;have a2:=A.2;show (intS 5).length+5+ ((prinS c).length+5+ ((octO s).length+5+ ((intS m).length+5+ ((timeS (f:Int)).length+5+ ((keyO k).length+5+ ((intS q).length+5+ ((preO d).length+5+0)))))))<=_;omega
 have V:tagS (autL (c,s,(f:Int),m,k,q,d))=tlv 48 (sufS (autL (c,s,(f:Int),m,k,q,d)) 0 8):=j1J (l:=autL (c,s,(f:Int),m,k,q,d)) (Ao O (by decide));have hl48:(tlv 48 (sufS (autL (c,s,(f:Int),m,k,q,d)) 0 8)).length<=1048590:=by rw [q0J];have:=q2b (sufS (autL (c,s,(f:Int),m,k,q,d)) 0 8).length;omega
 have R:autS (c,s,(f:Int),m,k,q,d)=tlv (appB 2) (tlv 48 (sufS (autL (c,s,(f:Int),m,k,q,d)) 0 8)):=by rw [Y,V];unfold wrapS;rw [if_pos ⟨by decide,by decide,q1q⟩,q0A (by omega)];rfl
 have B:autIn (sufS (autL (c,s,(f:Int),m,k,q,d)) 0 8)= .ok ((c,s,(f:Int),m,k,q,d),(sufS (autL (c,s,(f:Int),m,k,q,d)) 0 8).length):=by unfold autIn;refine q2s (n:=0) (k:=7) (q1Q o (by omega) (z4v (v:=5) (by decide)) (k0R (by decide))) ?_;refine q2s (n:=1) (k:=6) (q1Q o (by omega) w (full K)) ?_;refine q2s (n:=2) (k:=5) (z4I o (by omega) E.1) ?_;refine q2s (n:=3) (k:=4) (q1Q o (by omega) (z4v J) (full (q6o J))) ?_;refine q2s (n:=4) (k:=3) (q1Q o (by omega) (by show timeS (f:Int)≠ [];rw [q4n Q];exact q1q) (full (j1Z (by omega)))) ?_;refine q2s (n:=5) (k:=2) (z4I o (by omega) A.1) ?_;refine q2s (n:=6) (k:=1) (q1Q o (by omega) (z4v L) (full (q6o L))) ?_;refine q2s (n:=7) (k:=0) (z4I o (by omega) D) ?_;rfl
 refine ⟨R,o,O,λr=> ?_⟩;rw [R];exact q4g (by omega) (full (q4g (by omega) B)) r
def j8I{a:Aut}(h:vAut a=true):autD (autS a)=some a:=by have c:=full (z5i h).2.2.2;unfold autD allP;rw [c];simp [h]
end Go.Proofs.YthbcodbcndiapaaGreatDoor