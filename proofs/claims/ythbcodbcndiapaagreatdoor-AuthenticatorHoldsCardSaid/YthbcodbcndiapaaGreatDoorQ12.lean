/- Authenticators: their encoding. -/
import Derived.Test.YthbcodbcndiapaaGreatDoorQ11
set_option linter.all false
namespace Go.Proofs.YthbcodbcndiapaaGreatDoor
open Go Go.Sx Go.Proofs
set_option maxRecDepth 100000
set_option maxHeartbeats 40000000
def sumE(a:Aut):List (List UInt8):=if a.2.1.length=0 then [] else [wrapS 160 2 (elemS 4 [a.2.1])]
def subE(a:Aut):List (List UInt8):=if a.2.2.2.2.1.1=0 then [] else [wrapS 160 5 (keyS a.2.2.2.2.1)]
def datE(a:Aut):List (List UInt8):=if a.2.2.2.2.2.2.length=0 then [] else [wrapS 160 7 (dataS a.2.2.2.2.2.2)]
theorem k0L(a:Aut)(xs:List (List UInt8))(hl:xs.length<=100):PE Tryz.prog 32 [.bld 0 (.slice .u8) xs.length,.iptr AutT a 0] [.row (.slice .u8) xs] (.ret (.bld 1 (.slice .u8) (xs++sumE a).length)) [.dead,.row (.slice .u8) (xs++sumE a)]:=by
 have c1:=z1U a.2.1;have c2:=q2e 2 (elemS 4 [a.2.1]);unfold sumE;obtain ⟨c,s,t,m,k,q,d⟩:=a;dsimp only at*;refine z8u ?_;refine rQ fi32 ?_;refine ⟨λh=> ?_,λh=>q0a c1 ?_⟩
 . rw [if_pos (by omega),Ac];exact q6P (h:=0) rfl rfl (by simp)
 rw [if_neg (by omega)];refine gQ ?_;refine cQ c2 ?_;refine ⟨⟨by omega,by omega⟩,?_⟩;exact q6P rfl (by simp) (by simp)
theorem k0s(a:Aut)(xs:List (List UInt8))(hl:xs.length<=100):PE Tryz.prog 35 [.bld 0 (.slice .u8) xs.length,.iptr AutT a 0] [.row (.slice .u8) xs] (.ret (.bld 1 (.slice .u8) (xs++subE a).length)) [.dead,.row (.slice .u8) (xs++subE a)]:=by
 have c1:=j9V a.2.2.2.2.1;have c2:=q2e 5 (keyS a.2.2.2.2.1);unfold subE;obtain ⟨c,s,t,m,k,q,d⟩:=a;dsimp only at*;refine z8u ?_;refine rQ fi35 ?_;refine ⟨λh=> ?_,λh=>q0a c1 ?_⟩
 . rw [if_pos (by omega),Ac];exact q6P (h:=0) rfl rfl (by simp)
 rw [if_neg (by omega)];refine gQ ?_;refine cQ c2 ?_;refine ⟨⟨by omega,by omega⟩,?_⟩;exact q6P rfl (by simp) (by simp)
theorem k0D(a:Aut)(xs:List (List UInt8))(hl:xs.length<=100):PE Tryz.prog 37 [.bld 0 (.slice .u8) xs.length,.iptr AutT a 0] [.row (.slice .u8) xs] (.ret (.bld 1 (.slice .u8) (xs++datE a).length)) [.dead,.row (.slice .u8) (xs++datE a)]:=by
 have c1:=k0G a.2.2.2.2.2.2;have c2:=q2e 7 (dataS a.2.2.2.2.2.2);unfold datE;obtain ⟨c,s,t,m,k,q,d⟩:=a;dsimp only at*;refine z8u ?_;refine rQ fi37 ?_;refine ⟨λh=> ?_,λh=>q0a c1 ?_⟩
 . rw [if_pos (by omega),Ac];exact q6P (h:=0) rfl rfl (by simp)
 rw [if_neg (by omega)];refine gQ ?_;refine cQ c2 ?_;refine ⟨⟨by omega,by omega⟩,?_⟩;exact q6P rfl (by simp) (by simp)
def encL(a:Aut):List (List UInt8):=((([wrapS 160 0 (intS 5),wrapS 160 1 (prinS a.1)]++sumE a)++ [wrapS 160 3 (intS a.2.2.2.1),wrapS 160 4 (timeS a.2.2.1)]++subE a)++ [wrapS 160 6 (intS a.2.2.2.2.2.1)])++datE a
def autS(a:Aut):List UInt8:=wrapS 96 2 (elemS 48 (encL a))
theorem q5V(a:Aut)(n:AutT.ok a):PC Tryz.prog 10 [.agg (AutT.cells a)] (.tup [.isl .u8 (if vAut a then autS a else []),rI (if vAut a then 0 else 2)]):=by
 have c1:=q7B a n;have c2:=j0t a.1 n.1;have w:vAut a=true->vPrin a.1=true:=λh=>by unfold vAut at h;simp only [Aj] at h;exact h.1
 cases u:vAut a with
 |false=>rw [u] at c1;obtain ⟨c,s,t,m,k,q,d⟩:=a;refine q0f rfl rfl ?_;refine rQ fi10 ?_;refine cQ c1 ?_;trivial
 |true=>
  rw [w u] at c2;rw [u] at c1;simp only [if_true] at c2⊢;have C:=k0L a;have A:=k0s a;have D:=k0D a;have j:encL a=((([wrapS 160 0 (intS 5),wrapS 160 1 (prinS a.1)]++sumE a)++ [wrapS 160 3 (intS a.2.2.2.1),wrapS 160 4 (timeS a.2.2.1)]++subE a)++ [wrapS 160 6 (intS a.2.2.2.2.2.1)])++datE a:=rfl;have l1:(sumE a).length<=1:=by unfold sumE;split<;>simp
  have l2:(subE a).length<=1:=by unfold subE;split<;>simp
  have l3:(datE a).length<=1:=by unfold datE;split<;>simp
  refine q0f rfl rfl ?_;refine rQ fi10 ?_;refine cQ c1 ?_;refine q0a c2 ?_;refine q2n 1 0 (ty:=AutT) (x:=a) rfl n rfl rfl ?_;refine uQ 19 _ ?_;with_reducible refine sxE ?_
  refine q1B [999999,1] mixed ?_;refine uQ 1 _ ?_;with_reducible refine sxE ?_
  refine z9R rfl rfl rfl rfl rfl rfl ?_;refine gQ ?_;refine cR (q3g 5) ?_;refine cR (q2e 0 (intS 5)) ?_;refine cR (q2e 1 (prinS a.1)) ?_;refine ⟨rfl,?_⟩;have e1':=C [wrapS 160 0 (intS 5),wrapS 160 1 (prinS a.1)] (by simp);have e:([wrapS 160 0 (intS 5),wrapS 160 1 (prinS a.1)]++sumE a).length<=3:=by rw [Aa];show 2+_<=3;omega
  generalize [wrapS 160 0 (intS 5),wrapS 160 1 (prinS a.1)]++sumE a=y at e1' e j;refine q0v [2] e1' rfl (by decide) ⟨rfl,rfl,trivial⟩ rfl rfl ?_ ?_
  . simp (maxSteps:=3000000) only [mgA,sig,q0z,q0F,List.append_assoc,getA,getA0,setA,setA0,Aa,Ax,go_sem,↓zA,↓reduceIte,↓reduceDIte] <;>try simp only [zB]
    rfl
  refine rnE ?_;refine uQ 3 _ ?_;with_reducible refine sxE ?_
  refine q1B [999999] mixed ?_;refine gQ ?_;refine cR (q3g _) ?_;refine cR (q2e _ _) ?_;refine cR (k0K _) ?_;refine q0d (q2e _ _) ?_;refine uQ 5 _ ?_;with_reducible refine sxE ?_
  refine ⟨rfl,⟨by omega,by omega⟩,?_⟩;refine q1B [999999,1] mixed ?_;refine uQ 1 _ ?_;with_reducible refine sxE ?_
  refine z9R rfl rfl rfl rfl rfl rfl ?_;refine gQ ?_;have e2':=A (y++ [wrapS 160 3 (intS a.2.2.2.1),wrapS 160 4 (timeS a.2.2.1)]) (by rw [Aa];show _+2<=100;omega);have f:(y++ [wrapS 160 3 (intS a.2.2.2.1),wrapS 160 4 (timeS a.2.2.1)]++subE a).length<=6:=by rw [Aa,Aa];show _+2+_<=6;omega
  generalize y++ [wrapS 160 3 (intS a.2.2.2.1),wrapS 160 4 (timeS a.2.2.1)]++subE a=z at e2' f j;refine q0v [5] e2' (by simp [sig,SV.renL,SV.ren]) (by decide) ⟨rfl,rfl,trivial⟩ rfl rfl ?_ ?_
  . simp (maxSteps:=3000000) only [mgA,sig,q0z,q0F,List.append_assoc,getA,getA0,setA,setA0,Aa,Ax,go_sem,↓zA,↓reduceIte,↓reduceDIte] <;>try simp only [zB]
    rfl
  refine rnE ?_;refine gQ ?_;refine cR (q3g _) ?_;refine cR (q2e _ _) ?_;refine ⟨rfl,⟨by omega,by omega⟩,?_⟩;have e3':=D (z++ [wrapS 160 6 (intS a.2.2.2.2.2.1)]) (by rw [Aa];show _+1<=100;omega);have o:(z++ [wrapS 160 6 (intS a.2.2.2.2.2.1)]++datE a).length<=8:=by rw [Aa,Aa];show _+1+_<=8;omega
  rw [<-j] at e3' o;refine q0j [8] e3' (by simp [sig,SV.renL,SV.ren]) (by decide) ⟨rfl,rfl,trivial⟩ rfl rfl ?_;simp only [afterO,Out.ren,SV.ren,mgA,sig,SObj.ren,SV.renL,Az,Ar,List.append_assoc,Bp,Bk,List.set,List.map,Ac];refine gQ ?_;have B:=q4S (encL a) (by omega);refine q0u 9 ?_;with_reducible refine sxE ?_
  refine ⟨by omega,Ae _,?_⟩;rw [Ab (Ae _)];refine cQ B ?_;refine cQ (j9Z 2 _) ?_;rfl
set_option maxHeartbeats 4000000
def q4a(b:List UInt8)(n:Nat):PE Tryz.prog 68 [.agg [.ptr 0 0],rB true] [rdr b n] (.ret (.tup [])) [rdr b n]:=by refine q0b (by simp) ?_;refine rQ fi68 ?_;trivial
def q6k(b:List UInt8)(n:Nat):PE Tryz.prog 68 [.agg [.ptr 0 0],rB false] [rdr b n] (.pan (errV 6)) [.dead]:=by refine q0b (by simp) ?_;refine rQ fi68 ?_;trivial
def q5a(b:List UInt8)(n:Nat)(hn:n=b.length):PE Tryz.prog 67 [.agg [.ptr 0 0]] [rdr b n] (.ret (.tup [])) [rdr b n]:=by
 have c:=q3h b n (by omega);have e:=q4a b n;have f:(((b.length-n:Nat):Int)=0)=True:=eq_true (by omega);refine q0b (by simp) ?_;refine rQ fi67 ?_;refine q0v [0] c rfl (by decide) ⟨rfl,rfl,trivial⟩ rfl rfl ?_ ?_
 . simp (maxSteps:=3000000) only [mgA,sig,q0z,q0F,SObj.ren,SV.ren,SV.renL,List.append_assoc,getA,getA0,setA,setA0,Aa,Ax,go_sem,↓zA,↓reduceIte,↓reduceDIte] <;>try simp only [zB]
 refine rnE ?_;refine gy1 f ?_;refine q0v [0] e rfl (by decide) ⟨rfl,rfl,trivial⟩ rfl rfl ?_ ?_
 . simp (maxSteps:=3000000) only [mgA,sig,q0z,q0F,SObj.ren,SV.ren,SV.renL,List.append_assoc,getA,getA0,setA,setA0,Aa,Ax,go_sem,↓zA,↓reduceIte,↓reduceDIte] <;>try simp only [zB]
 refine rnE ?_;refine gQ ?_;trivial
def q5D(b:List UInt8)(n:Nat)(hn:n<b.length):PE Tryz.prog 67 [.agg [.ptr 0 0]] [rdr b n] (.pan (errV 6)) [.dead]:=by
 have c:=q3h b n (by omega);have e:=q6k b n;have f:(((b.length-n:Nat):Int)=0)=False:=eq_false (by omega);refine q0b (by simp) ?_;refine q2i fi67 (q0p mixed 4 _ ?_);simp (maxSteps:=3000000) only [ir67,go_sem,↓zA,↓reduceIte,↓reduceDIte] <;>try simp only [zB]
 refine q1B [1,999999] mixed ?_;refine gQ ?_;refine q0v [0] c rfl (by decide) ⟨rfl,rfl,trivial⟩ rfl rfl ?_ ?_
 . simp (maxSteps:=3000000) only [mgA,sig,q0z,q0F,SObj.ren,SV.ren,SV.renL,List.append_assoc,getA,getA0,setA,setA0,Aa,Ax,go_sem,↓zA,↓reduceIte,↓reduceDIte] <;>try simp only [zB]
 refine rnE ?_;refine gy1 f ?_;refine q0v [0] e rfl (by decide) ⟨rfl,rfl,trivial⟩ rfl rfl ?_ ?_
 . simp (maxSteps:=3000000) only [mgA,sig,q0z,q0F,SObj.ren,SV.ren,SV.renL,List.append_assoc,getA,getA0,setA,setA0,Aa,Ax,go_sem,↓zA,↓reduceIte,↓reduceDIte] <;>try simp only [zB]
 refine rnE ?_;with_reducible refine sxE ?_;trivial
theorem q5W(v:Value):PC Tryz.prog 184 [.raw v,rI 0] (.raw v):=by refine q0f rfl rfl ?_;refine rQ fi184 ?_;trivial
def q7f(v:Value)(e:Nat)(c:e≠0):PE Tryz.prog 184 [.raw v,rI e] [] (.pan (errV e)) []:=by refine q0b (by simp) ?_;refine rQ fi184 ?_;exact ⟨λ_=>trivial,λh=>absurd (by omega) c⟩
theorem q8Y(v:List UInt8):PC Tryz.prog 141 [.isl .u8 v,rI 0] (.isl .u8 v):=by refine q0f rfl rfl ?_;refine rQ fi141 ?_;trivial
def q9y(v:List UInt8)(e:Nat)(c:e≠0):PE Tryz.prog 141 [.isl .u8 v,rI e] [] (.pan (errV e)) []:=by refine q0b (by simp) ?_;refine rQ fi141 ?_;exact ⟨λ_=>trivial,λh=>absurd (by omega) c⟩
theorem q9W(v:Prin):PC Tryz.prog 185 [.agg (PrinT.cells v),rI 0] (.agg (PrinT.cells v)):=by refine q0f rfl rfl ?_;refine rQ fi185 ?_;trivial
def z1d(v:Prin)(e:Nat)(c:e≠0):PE Tryz.prog 185 [.agg (PrinT.cells v),rI e] [] (.pan (errV e)) []:=by refine q0b (by simp) ?_;refine rQ fi185 ?_;exact ⟨λ_=>trivial,λh=>absurd (by omega) c⟩
theorem z3w(v:Key):PC Tryz.prog 146 [.agg (KeyT.cells v),rI 0] (.agg (KeyT.cells v)):=by refine q0f rfl rfl ?_;refine rQ fi146 ?_;trivial
def z2k(v:Key)(e:Nat)(c:e≠0):PE Tryz.prog 146 [.agg (KeyT.cells v),rI e] [] (.pan (errV e)) []:=by refine q0b (by simp) ?_;refine rQ fi146 ?_;exact ⟨λ_=>trivial,λh=>absurd (by omega) c⟩
theorem q9V(v:List Pre):PC Tryz.prog 150 [.isl PreT v,rI 0] (.isl PreT v):=by refine q0f rfl rfl ?_;refine rQ fi150 ?_;trivial
def z1s(v:List Pre)(e:Nat)(c:e≠0):PE Tryz.prog 150 [.isl PreT v,rI e] [] (.pan (errV e)) []:=by refine q0b (by simp) ?_;refine rQ fi150 ?_;exact ⟨λ_=>trivial,λh=>absurd (by omega) c⟩
def q2W(b:List UInt8)(n:Nat):PE Tryz.prog 64 [.ptr 0 0,rI 0] [rdr b n] (.ret (.ptr 0 0)) [rdr b n]:=by refine q0b (by simp) ?_;refine rQ fi64 ?_;trivial
def q7g(e:Nat)(c:e≠0):PE Tryz.prog 64 [.raw (.pointer none),rI e] [] (.pan (errV e)) []:=by refine q0b (by simp) ?_;refine rQ fi64 ?_;exact ⟨λ_=>trivial,λh=>absurd (by omega) c⟩
variable {α:Type}
def moR(res:α->SV)(z:SV):Option α->SV
 |some v=>.tup [res v,rB true]
 |none=>.tup [z,rB false]
def k1b(c:List UInt8)(f:c.length<=1099511627776):EffR Tryz.prog 70 [.ptr 0 0] c 0 (λv:Int=>rI v) (rI 0) (intP c):=by
 cases h:intP c with
 |error e=>exact z8f c 0 (Ak _) f h
 |ok x=>obtain ⟨v,k⟩:=x;exact j0b c 0 (Ak _) f h
def j6Y(c:List UInt8)(f:c.length<=1099511627776):EffR Tryz.prog 75 [.ptr 0 0] c 0 (λv:Nat=>rI (v:Nat)) (rI 0) (timeP c):=by
 cases h:timeP c with
 |error e=>exact j4g c 0 (Ak _) f h
 |ok x=>obtain ⟨v,k⟩:=x;exact j2k c 0 (Ak _) f h
def k0X(c:List UInt8)(f:c.length<=1099511627776):EffR Tryz.prog 74 [.ptr 0 0] c 0 (λv:List UInt8=>.isl .u8 v) (.isl .u8 []) (octP c):=by
 cases h:octP c with
 |error e=>exact z9j c 0 (Ak _) f h
 |ok x=>obtain ⟨v,k⟩:=x;exact z9Q c 0 (Ak _) f h
def j7F(c:List UInt8)(hc:c.length<=1099511627776):EffR Tryz.prog 72 [.ptr 0 0] c 0 (λv:Prin=>.agg (PrinT.cells v)) zPrin (nameP c):=k0p c 0 (Ak _) hc
def k1e(c:List UInt8)(hc:c.length<=1099511627776):EffR Tryz.prog 77 [.ptr 0 0] c 0 (λv:Key=>.agg (KeyT.cells v)) zKey (keyP c):=j8E c 0 (Ak _) hc
def j8U(c:List UInt8)(hc:c.length<=1099511627776):EffR Tryz.prog 79 [.ptr 0 0] c 0 (λv:List Pre=>.isl PreT v) zDat (dataP c):=j3W c 0 (Ak _) hc
attribute [go_sem] moR
def someP:Except Nat (α×Nat)->Except Nat (Option α×Nat)
 |.ok (v,k)=>.ok (some v,k)
 |.error e=>.error e
variable {i:Nat}{p:PR α}{r:List UInt8}
theorem q3c(h:nextB i r=false):mayP i p r= .ok (none,0):=by unfold mayP;rw [h];rfl
theorem q2U(h:nextB i r=true):mayP i p r=someP (inP (tagB i) p r):=by
 unfold mayP;rw [if_pos h];cases inP (tagB i) p r with
 |error e=>rfl
 |ok x=>obtain ⟨v,k⟩:=x;rfl
theorem k0Z(i:Nat)(w:i<=30)(b:List UInt8)(n:Nat)(y:n<=b.length)(u:b.length<=1099511627776):EffX Tryz.prog 129 [.agg [.ptr 0 0],rI i,.fn 70 [] []] b n (moR (λv:Int=>rI v) (rI 0)) (mayP i intP (b.drop n)):=by
 cases h:nextB i (b.drop n) with
 |false=>rw [q3c h];have j:=q3t i w b n y h;refine q0b (by simp) ?_;refine rQ fi129 ?_;refine eQ [0] (j) ?_;try rfl
 |true=>
  rw [q2U h];by_cases o:takeE (tagB i) (b.drop n)=0
  . have j:=q3p i w b n y u h o;have A:=q1P (n:=n) u;rw [q3s o];generalize takeC (b.drop n)=c at*;generalize takeN (b.drop n)=N at*;have s:=k1b c A;cases t:intP c with
    |error e=>rw [t] at s;have z:e≠0:=(λ_ _ h=>q7s h) _ _ t;have hr':=q4k s rfl;refine q0b (by simp) ?_;refine rQ fi129 ?_;refine eQ [0] (j) ?_;refine eQ [2] (hr') ?_;refine effP [] (q7f (.int .i64 0) e z) ?_;trivial
    |ok x=>
     obtain ⟨v,m⟩:=x;rw [t] at s;have hr':=q4n s rfl;rw [Ai] at hr';have hm:=(q4T) _ _ _ t;simp only [closeP];by_cases f:m<c.length
     . rw [if_pos f];refine q0b (by simp) ?_;refine rQ fi129 ?_;refine eQ [0] (j) ?_;refine eQ [2] (hr') ?_;refine cQ (q5W _) ?_;refine effP [2] (q5D c m f) ?_;try rfl
     rw [if_neg f];refine q0b (by simp) ?_;refine rQ fi129 ?_;refine eQ [0] (j) ?_;refine eQ [2] (hr') ?_;refine cQ (q5W _) ?_;refine eQ [2] (q5a c m (by omega)) ?_;trivial
  rw [q4b o];have j:=q3r i w b n y u h o;generalize takeE (tagB i) (b.drop n)=e at*;refine q0b (by simp) ?_;refine rQ fi129 ?_;refine eQ [0] (j) ?_;exact ⟨λ_=>trivial,λq=>absurd (by omega) o⟩
theorem j6n(i:Nat)(w:i<=30)(b:List UInt8)(n:Nat)(y:n<=b.length)(u:b.length<=1099511627776):EffX Tryz.prog 129 [.agg [.ptr 0 0],rI i,.fn 75 [] []] b n (moR (λv:Nat=>rI (v:Nat)) (rI 0)) (mayP i timeP (b.drop n)):=by
 cases h:nextB i (b.drop n) with
 |false=>rw [q3c h];have j:=q3t i w b n y h;refine q0b (by simp) ?_;refine rQ fi129 ?_;refine eQ [0] (j) ?_;try rfl
 |true=>
  rw [q2U h];by_cases o:takeE (tagB i) (b.drop n)=0
  . have j:=q3p i w b n y u h o;have A:=q1P (n:=n) u;rw [q3s o];generalize takeC (b.drop n)=c at*;generalize takeN (b.drop n)=N at*;have s:=j6Y c A;cases t:timeP c with
    |error e=>rw [t] at s;have z:e≠0:=(λ_ _ h=>q7s h) _ _ t;have hr':=q4k s rfl;refine q0b (by simp) ?_;refine rQ fi129 ?_;refine eQ [0] (j) ?_;refine eQ [2] (hr') ?_;refine effP [] (q7f (.int .i64 0) e z) ?_;trivial
    |ok x=>
     obtain ⟨v,m⟩:=x;rw [t] at s;have hr':=q4n s rfl;rw [Ai] at hr';have hm:=(q4T) _ _ _ t;simp only [closeP];by_cases f:m<c.length
     . rw [if_pos f];refine q0b (by simp) ?_;refine rQ fi129 ?_;refine eQ [0] (j) ?_;refine eQ [2] (hr') ?_;refine cQ (q5W _) ?_;refine effP [2] (q5D c m f) ?_;try rfl
     rw [if_neg f];refine q0b (by simp) ?_;refine rQ fi129 ?_;refine eQ [0] (j) ?_;refine eQ [2] (hr') ?_;refine cQ (q5W _) ?_;refine eQ [2] (q5a c m (by omega)) ?_;trivial
  rw [q4b o];have j:=q3r i w b n y u h o;generalize takeE (tagB i) (b.drop n)=e at*;refine q0b (by simp) ?_;refine rQ fi129 ?_;refine eQ [0] (j) ?_;exact ⟨λ_=>trivial,λq=>absurd (by omega) o⟩
theorem k0c(i:Nat)(w:i<=30)(b:List UInt8)(n:Nat)(y:n<=b.length)(u:b.length<=1099511627776):EffX Tryz.prog 73 [.agg [.ptr 0 0],rI i,.fn 74 [] []] b n (moR (λv:List UInt8=>.isl .u8 v) (.isl .u8 [])) (mayP i octP (b.drop n)):=by
 cases h:nextB i (b.drop n) with
 |false=>rw [q3c h];have j:=q3t i w b n y h;refine q0b (by simp) ?_;refine rQ fi73 ?_;refine eQ [0] (j) ?_;try rfl
 |true=>
  rw [q2U h];by_cases o:takeE (tagB i) (b.drop n)=0
  . have j:=q3p i w b n y u h o;have A:=q1P (n:=n) u;rw [q3s o];generalize takeC (b.drop n)=c at*;generalize takeN (b.drop n)=N at*;have s:=k0X c A;cases t:octP c with
    |error e=>rw [t] at s;have z:e≠0:=(λ_ _ h=>q7s h) _ _ t;have hr':=q4k s rfl;refine q0b (by simp) ?_;refine rQ fi73 ?_;refine eQ [0] (j) ?_;refine eQ [2] (hr') ?_;refine effP [] (q9y [] e z) ?_;trivial
    |ok x=>
     obtain ⟨v,m⟩:=x;rw [t] at s;have hr':=q4n s rfl;rw [Ai] at hr';have hm:=(q4T) _ _ _ t;simp only [closeP];by_cases f:m<c.length
     . rw [if_pos f];refine q0b (by simp) ?_;refine rQ fi73 ?_;refine eQ [0] (j) ?_;refine eQ [2] (hr') ?_;refine cQ (q8Y _) ?_;refine effP [2] (q5D c m f) ?_;try rfl
     rw [if_neg f];refine q0b (by simp) ?_;refine rQ fi73 ?_;refine eQ [0] (j) ?_;refine eQ [2] (hr') ?_;refine cQ (q8Y _) ?_;refine eQ [2] (q5a c m (by omega)) ?_;trivial
  rw [q4b o];have j:=q3r i w b n y u h o;generalize takeE (tagB i) (b.drop n)=e at*;refine q0b (by simp) ?_;refine rQ fi73 ?_;refine eQ [0] (j) ?_;exact ⟨λ_=>trivial,λq=>absurd (by omega) o⟩
theorem j8S(i:Nat)(w:i<=30)(b:List UInt8)(n:Nat)(y:n<=b.length)(u:b.length<=1099511627776):EffX Tryz.prog 132 [.agg [.ptr 0 0],rI i,.fn 72 [] []] b n (moR (λv:Prin=>.agg (PrinT.cells v)) (zPrin)) (mayP i nameP (b.drop n)):=by
 cases h:nextB i (b.drop n) with
 |false=>rw [q3c h];have j:=q3t i w b n y h;refine q0b (by simp) ?_;refine rQ fi132 ?_;refine eQ [0] (j) ?_;try rfl
 |true=>
  rw [q2U h];by_cases o:takeE (tagB i) (b.drop n)=0
  . have j:=q3p i w b n y u h o;have A:=q1P (n:=n) u;rw [q3s o];generalize takeC (b.drop n)=c at*;generalize takeN (b.drop n)=N at*;have s:=j7F c A;cases t:nameP c with
    |error e=>rw [t] at s;have z:e≠0:=(j3C) _ _ t;have hr':=q4k s rfl;refine q0b (by simp) ?_;refine rQ fi132 ?_;refine eQ [0] (j) ?_;refine eQ [3] (hr') ?_;refine effP [] (z1d ([],⟨#[]⟩) e z) ?_;trivial
    |ok x=>
     obtain ⟨v,m⟩:=x;rw [t] at s;have hr':=q4n s rfl;rw [Ai] at hr';have hm:=(z7g) _ _ _ t;simp only [closeP];by_cases f:m<c.length
     . rw [if_pos f];refine q0b (by simp) ?_;refine rQ fi132 ?_;refine eQ [0] (j) ?_;refine eQ [3] (hr') ?_;refine cQ (q9W _) ?_;refine effP [3] (q5D c m f) ?_;try rfl
     rw [if_neg f];refine q0b (by simp) ?_;refine rQ fi132 ?_;refine eQ [0] (j) ?_;refine eQ [3] (hr') ?_;refine cQ (q9W _) ?_;refine eQ [3] (q5a c m (by omega)) ?_;trivial
  rw [q4b o];have j:=q3r i w b n y u h o;generalize takeE (tagB i) (b.drop n)=e at*;refine q0b (by simp) ?_;refine rQ fi132 ?_;refine eQ [0] (j) ?_;exact ⟨λ_=>trivial,λq=>absurd (by omega) o⟩
theorem j9p(i:Nat)(w:i<=30)(b:List UInt8)(n:Nat)(y:n<=b.length)(u:b.length<=1099511627776):EffX Tryz.prog 76 [.agg [.ptr 0 0],rI i,.fn 77 [] []] b n (moR (λv:Key=>.agg (KeyT.cells v)) (zKey)) (mayP i keyP (b.drop n)):=by
 cases h:nextB i (b.drop n) with
 |false=>rw [q3c h];have j:=q3t i w b n y h;refine q0b (by simp) ?_;refine rQ fi76 ?_;refine eQ [0] (j) ?_;try rfl
 |true=>
  rw [q2U h];by_cases o:takeE (tagB i) (b.drop n)=0
  . have j:=q3p i w b n y u h o;have A:=q1P (n:=n) u;rw [q3s o];generalize takeC (b.drop n)=c at*;generalize takeN (b.drop n)=N at*;have s:=k1e c A;cases t:keyP c with
    |error e=>rw [t] at s;have z:e≠0:=(j8R) _ _ t;have hr':=q4k s rfl;refine q0b (by simp) ?_;refine rQ fi76 ?_;refine eQ [0] (j) ?_;refine eQ [3] (hr') ?_;refine effP [] (z2k nKey e z) ?_;trivial
    |ok x=>
     obtain ⟨v,m⟩:=x;rw [t] at s;have hr':=q4n s rfl;rw [Ai] at hr';have hm:=(q5Z) _ _ _ t;simp only [closeP];by_cases f:m<c.length
     . rw [if_pos f];refine q0b (by simp) ?_;refine rQ fi76 ?_;refine eQ [0] (j) ?_;refine eQ [3] (hr') ?_;refine cQ (z3w _) ?_;refine effP [3] (q5D c m f) ?_;try rfl
     rw [if_neg f];refine q0b (by simp) ?_;refine rQ fi76 ?_;refine eQ [0] (j) ?_;refine eQ [3] (hr') ?_;refine cQ (z3w _) ?_;refine eQ [3] (q5a c m (by omega)) ?_;trivial
  rw [q4b o];have j:=q3r i w b n y u h o;generalize takeE (tagB i) (b.drop n)=e at*;refine q0b (by simp) ?_;refine rQ fi76 ?_;refine eQ [0] (j) ?_;exact ⟨λ_=>trivial,λq=>absurd (by omega) o⟩
theorem j6F(i:Nat)(w:i<=30)(b:List UInt8)(n:Nat)(y:n<=b.length)(u:b.length<=1099511627776):EffX Tryz.prog 78 [.agg [.ptr 0 0],rI i,.fn 79 [] []] b n (moR (λv:List Pre=>.isl PreT v) (zDat)) (mayP i dataP (b.drop n)):=by
 cases h:nextB i (b.drop n) with
 |false=>rw [q3c h];have j:=q3t i w b n y h;refine q0b (by simp) ?_;refine rQ fi78 ?_;refine eQ [0] (j) ?_;try rfl
 |true=>
  rw [q2U h];by_cases o:takeE (tagB i) (b.drop n)=0
  . have j:=q3p i w b n y u h o;have A:=q1P (n:=n) u;rw [q3s o];generalize takeC (b.drop n)=c at*;generalize takeN (b.drop n)=N at*;have s:=j8U c A;cases t:dataP c with
    |error e=>rw [t] at s;have z:e≠0:=(j2J) _ _ t;have hr':=q4k s rfl;refine q0b (by simp) ?_;refine rQ fi78 ?_;refine eQ [0] (j) ?_;refine eQ [2] (hr') ?_;refine effP [] (z1s [] e z) ?_;trivial
    |ok x=>
     obtain ⟨v,m⟩:=x;rw [t] at s;have hr':=q4n s rfl;rw [Ai] at hr';have hm:=(q5Z) _ _ _ t;simp only [closeP];by_cases f:m<c.length
     . rw [if_pos f];refine q0b (by simp) ?_;refine rQ fi78 ?_;refine eQ [0] (j) ?_;refine eQ [2] (hr') ?_;refine cQ (q9V _) ?_;refine effP [2] (q5D c m f) ?_;try rfl
     rw [if_neg f];refine q0b (by simp) ?_;refine rQ fi78 ?_;refine eQ [0] (j) ?_;refine eQ [2] (hr') ?_;refine cQ (q9V _) ?_;refine eQ [2] (q5a c m (by omega)) ?_;trivial
  rw [q4b o];have j:=q3r i w b n y u h o;generalize takeE (tagB i) (b.drop n)=e at*;refine q0b (by simp) ?_;refine rQ fi78 ?_;refine eQ [0] (j) ?_;exact ⟨λ_=>trivial,λq=>absurd (by omega) o⟩
def z4h(i:Nat)(o:i<=30)(b:List UInt8)(n:Nat)(q:n<=b.length)(m:b.length<=1099511627776):EffY Tryz.prog 69 [.agg [.ptr 0 0],rI i,.fn 70 [] []] b n (λv=>rI v) (needP i intP (b.drop n)):=by
 have f:=k0Z i o b n q m;cases h:nextB i (b.drop n) with
 |false=>rw [q2t h];have ho':=q1e f (q3c h);refine ⟨6,?_⟩;refine q0b (by simp) ?_;refine rQ fi69 ?_;refine eQ [0] (ho') ?_;refine effP [0] (q6k b (n+0)) ?_;try rfl
 |true=>
  rw [q2x h];have c:=q2U (p:=intP) h;cases j:inP (tagB i) intP (b.drop n) with
  |error e=>rw [j] at c;have ho':=q2B f c;refine ⟨e,?_⟩;refine q0b (by simp) ?_;refine rQ fi69 ?_;refine effP [0] (ho') ?_;trivial
  |ok x=>obtain ⟨v,k⟩:=x;rw [j] at c;have ho':=q1e f c;refine q0b (by simp) ?_;refine rQ fi69 ?_;refine eQ [0] (ho') ?_;refine eQ [0] (q4a b (n+k)) ?_;trivial
def j2S(i:Nat)(o:i<=30)(b:List UInt8)(n:Nat)(q:n<=b.length)(m:b.length<=1099511627776):EffY Tryz.prog 69 [.agg [.ptr 0 0],rI i,.fn 75 [] []] b n (λv=>rI (v:Nat)) (needP i timeP (b.drop n)):=by
 have f:=j6n i o b n q m;cases h:nextB i (b.drop n) with
 |false=>rw [q2t h];have ho':=q1e f (q3c h);refine ⟨6,?_⟩;refine q0b (by simp) ?_;refine rQ fi69 ?_;refine eQ [0] (ho') ?_;refine effP [0] (q6k b (n+0)) ?_;try rfl
 |true=>
  rw [q2x h];have c:=q2U (p:=timeP) h;cases j:inP (tagB i) timeP (b.drop n) with
  |error e=>rw [j] at c;have ho':=q2B f c;refine ⟨e,?_⟩;refine q0b (by simp) ?_;refine rQ fi69 ?_;refine effP [0] (ho') ?_;trivial
  |ok x=>obtain ⟨v,k⟩:=x;rw [j] at c;have ho':=q1e f c;refine q0b (by simp) ?_;refine rQ fi69 ?_;refine eQ [0] (ho') ?_;refine eQ [0] (q4a b (n+k)) ?_;trivial
def j3k(i:Nat)(o:i<=30)(b:List UInt8)(n:Nat)(q:n<=b.length)(m:b.length<=1099511627776):EffY Tryz.prog 71 [.agg [.ptr 0 0],rI i,.fn 72 [] []] b n (λv=>.agg (PrinT.cells v)) (needP i nameP (b.drop n)):=by
 have f:=j8S i o b n q m;cases h:nextB i (b.drop n) with
 |false=>rw [q2t h];have ho':=q1e f (q3c h);refine ⟨6,?_⟩;refine q0b (by simp) ?_;refine rQ fi71 ?_;refine eQ [0] (ho') ?_;refine effP [0] (q6k b (n+0)) ?_;try rfl
 |true=>
  rw [q2x h];have c:=q2U (p:=nameP) h;cases j:inP (tagB i) nameP (b.drop n) with
  |error e=>rw [j] at c;have ho':=q2B f c;refine ⟨e,?_⟩;refine q0b (by simp) ?_;refine rQ fi71 ?_;refine effP [0] (ho') ?_;trivial
  |ok x=>obtain ⟨v,k⟩:=x;rw [j] at c;have ho':=q1e f c;refine q0b (by simp) ?_;refine rQ fi71 ?_;refine eQ [0] (ho') ?_;refine eQ [0] (q4a b (n+k)) ?_;trivial
set_option maxHeartbeats 40000000
abbrev zAut:SV:=.agg [.isl .str [],rS ⟨#[]⟩,.isl .u8 [],rI 0,rI 0,rI 0,rI 0,.isl .u8 [],rI 0,.isl PreT []]
@[go_sem] abbrev zAutC:List SV:=[.raw (.slice none 0 0),rS ⟨#[]⟩,.raw (.slice none 0 0),rI 0,rI 0,rI 0,rI 0,.raw (.slice none 0 0),rI 0,.raw (.slice none 0 0)]
def q1x(e:Int)(c0 c1 c2 c3 o m n f j c y:SV)(G:List SObj)(K:List SObj->Prop)(h:∀G',K (.cells 30 zAutC :: .cells 33 [rI 6] :: G++G')):
 DCall Tryz.prog 62 [.ptr 0 0,.ptr 1 0] (some (errV e)) (.cells 30 [c0,c1,c2,c3,o,m,n,f,j,c] :: .cells 33 [y] :: G) K:=by
 refine recE mixed fi62 ?_;simpa using h []
def j7N(H:List SObj)(K:List SObj->Prop)(h:∀G,K (H++G)):DCall Tryz.prog 62 [.ptr 0 0,.ptr 1 0] none H K:=by refine recE mixed fi62 ?_;simpa using h []
def optQ(i:Nat)(p:PR α)(d:α)(fit:α->Bool):PR α:=λr=>match mayP i p r with
 |.ok (some v,k)=>if fit v then .ok (v,k) else .error 6
 |.ok (none,k)=>.ok (d,k)
 |.error e=>.error e
variable {d:α}{fit:α->Bool}{k:Nat}
theorem q6K{v:α}(h:optQ i p d fit r= .ok (v,k)):(mayP i p r= .ok (some v,k)/\fit v=true)\/(mayP i p r= .ok (none,k)/\v=d):=by
 unfold optQ at h;split at h
 . split at h
   . cases h;exact .inl ⟨by assumption,by assumption⟩
   cases h
 . cases h;exact .inr ⟨by assumption,rfl⟩
 cases h
theorem z4m{e:Nat}(h:optQ i p d fit r= .error e):(∃e',mayP i p r= .error e')\/∃v k,mayP i p r= .ok (some v,k)/\fit v=false:=by
 unfold optQ at h;split at h
 . split at h
   . cases h
   rename_i c f;exact .inr ⟨_,_,c,by simpa using f⟩
 . cases h
 exact .inl ⟨_,by assumption⟩
def z9g:FitsP (mayP i p):=λr v k h=>by
 cases f:nextB i r with
 |false=>rw [q3c f] at h;cases h;exact Ak _
 |true=>
  rw [q2U f] at h;cases c:inP (tagB i) p r with
  |error e=>rw [c] at h;cases h
  |ok x=>obtain ⟨u,m⟩:=x;rw [c] at h;cases h;exact q5Z r _ _ c
def q9i:FitsP (optQ i p d fit):=λr v k h=>by rcases q6K h with ⟨c,_⟩ | ⟨c,_⟩ <;>exact z9g r _ k c
variable {v:Int}
def q8h:needP i (cstP v) r=match needP i intP r with
 |.ok (w,k)=>if w=v then .ok ((),k) else .error 6
 |.error e=>.error e:=by
 cases h:nextB i r with
 |false=>rw [q2t h,q2t h]
 |true=>
  rw [q2x h,q2x h];by_cases f:takeE (tagB i) r=0
  . rw [q3s f,q3s f];unfold cstP;cases hx:intP (takeC r) with
    |error e=>rfl
    |ok y=>
     obtain ⟨w,k⟩:=y;simp only;by_cases j:w=v
     . rw [if_pos j];simp only [closeP];by_cases c:k< (takeC r).length
       . rw [if_pos c,if_pos c]
       rw [if_neg c,if_neg c];simp only;rw [if_pos j]
     rw [if_neg j];simp only [closeP];by_cases c:k< (takeC r).length
     . rw [if_pos c]
     rw [if_neg c];simp only;rw [if_neg j]
  rw [q4b f,q4b f]
def z4R{Q:α->Prop}(o:Q d)(q:OkP p Q):OkP (optQ i p d fit) Q:=λr v m s h=>by
 rcases q6K h with ⟨c,_⟩ | ⟨_,rfl⟩
 . cases j:nextB i r with
   |false=>rw [q3c j] at c;cases c
   |true=>
    rw [q2U j] at c;cases f:inP (tagB i) p r with
    |error e=>rw [f] at c;cases c
    |ok x=>obtain ⟨u,n⟩:=x;rw [f] at c;cases c;exact z3y q r _ _ s f
 exact o
def j4E:OkP datP PreT.ok:=z3y (q6e (Q1:=λ_=>True) z1P λ_ _=>q6e (q5M z4Z) λ_ hc=>j0l ⟨trivial,hc⟩)
def z9m:OkP dataP (Ty.slice PreT).ok:=k1r (t:=PreT) 16 (by omega) j4E
def autIn:PR Aut:=bindP (needP 0 (cstP 5)) λ_=>bindP (needP 1 nameP) λc=>bindP (optQ 2 octP [] λs=>decide (0< (s.length:Int))) λs=>bindP (needP 3 intP) λm=>bindP (needP 4 timeP) λt=>bindP (optQ 5 keyP nKey λk=> !decide (k.1=0)) λk=>bindP (needP 6 intP) λq=>bindP (optQ 7 dataP [] λd=>decide (0< (d.length:Int))) λd=>retP ((c,s,(t:Int),m,k,q,d):Aut)
def autP:PR Aut:=inP (appB 2) (inP 48 autIn)
def autD(b:List UInt8):Option Aut:=match allP autP b with
 |.ok a=>if vAut a=true then some a else none
 |.error _=>none
def autDS(x:Option Aut):SV:=match x with
 |some a=>.tup [.agg (AutT.cells a),rI 0]
 |none=>.tup [zAut,rI 6]
def finA(c:List UInt8):Except Nat (Aut×Nat)->Option Aut
 |.ok (a,m)=>if m<c.length then none else if vAut a=true then some a else none
 |.error _=>none
variable {b:List UInt8}
def j7c(h:takeE (appB 2) b=0)(f:takeE 48 (takeC b)=0)(n:¬takeN b<b.length)(j:¬takeN (takeC b) < (takeC b).length):autD b=finA (takeC (takeC b)) (autIn (takeC (takeC b))):=by
 unfold autD allP autP;rw [q3s h,q3s f];cases autIn (takeC (takeC b)) with
 |error e=>rfl
 |ok x=>
  obtain ⟨a,m⟩:=x;simp only [closeP,finA];by_cases c:m< (takeC (takeC b)).length
  . rw [if_pos c,if_pos c]
  rw [if_neg c,if_neg c];simp only [];rw [if_neg j];simp only [];rw [if_neg n]
def j2p(n:takeE (appB 2) b=0)(j:takeE 48 (takeC b)=0)(h:takeN b<b.length\/takeN (takeC b) < (takeC b).length):autD b=none:=by
 unfold autD allP autP;rw [q3s n,q3s j];cases autIn (takeC (takeC b)) with
 |error e=>rfl
 |ok x=>
  obtain ⟨a,m⟩:=x;simp only [closeP];by_cases f:m< (takeC (takeC b)).length
  . rw [if_pos f]
  rw [if_neg f];simp only [];by_cases c:takeN (takeC b) < (takeC b).length
  . rw [if_pos c]
  rw [if_neg c];simp only [];rw [if_pos (h.resolve_right c)]
theorem q8n(x:Option Aut):(autDS x).clean=true:=by cases x<;>rfl
theorem q1c:autDS none= .tup [zAut,rI 6]:=rfl
theorem q7P(a:Aut):autDS (some a)= .tup [.agg (AutT.cells a),rI 0]:=rfl
theorem q5x(b:List UInt8)(hb:b.length<=1099511627776):PC Tryz.prog 15 [.isl .u8 b] (autDS (autD b)):=by
 have t:=k1q b (by omega);by_cases H:takeE (appB 2) b=0;rotate_left
 . have u:=j6z 2 (by decide) b 0 (Ak _) hb H;rw [Ap] at u;have hd:autD b=none:=by unfold autD allP autP;rw [q4b H]
   rw [hd,q1c];refine q0f rfl rfl ?_;refine defE mixed fi15 ?_;refine gQ ?_;refine eQ [] (t) ?_;refine eQ [2] (u) ?_;refine effP [] (q7g _ H) ?_;refine ⟨by simp,q1x _ _ _ _ _ _ _ _ _ _ _ _ _ _ λG=> ?_⟩;with_reducible refine sxE ?_;trivial
 have u:=j8i 2 (by decide) b 0 (Ak _) hb H;rw [Ap,Ai] at u;have E:=q1P (n:=0) hb;have aa:=q2E H;rw [Ap] at E;by_cases J:takeE 48 (takeC b)=0;rotate_left
 . have y:=q6X (takeC b) 0 (Ak _) E J;rw [Ap] at y;have hd:autD b=none:=by unfold autD allP autP;rw [q3s H,q4b J];rfl
   rw [hd,q1c];refine q0f rfl rfl ?_;refine defE mixed fi15 ?_;refine gQ ?_;refine eQ [] (t) ?_;refine eQ [2] (u) ?_;refine eQ [4] (q2W (takeC b) 0) ?_;refine eQ [4] (y) ?_;refine effP [] (q7g _ J) ?_;refine ⟨by simp,q1x _ _ _ _ _ _ _ _ _ _ _ _ _ _ λG=> ?_⟩;with_reducible refine sxE ?_;trivial
 have y:=q6A (takeC b) 0 (Ak _) E J;rw [Ap,Ai] at y;have w:=q1P (n:=0) E;have ab:=q2E J;rw [Ap] at w;have Z:=j7c H J;have N:=j2p H J;generalize takeC (takeC b)=c at*;generalize takeC b=c1 at*;generalize takeN c1=N2 at*;generalize takeN b=N1 at*;by_cases h2:N2<c1.length
 . rw [N (.inr h2),q1c];refine q0f rfl rfl ?_;refine defE mixed fi15 ?_;refine gQ ?_;refine eQ [] (t) ?_;refine eQ [2] (u) ?_;refine eQ [4] (q2W c1 0) ?_;refine eQ [4] (y) ?_;refine eQ [6] (q2W c 0) ?_;refine effP [4] (q5D c1 N2 h2) ?_;refine ⟨by simp,q1x _ _ _ _ _ _ _ _ _ _ _ _ _ _ λG=> ?_⟩;with_reducible refine sxE ?_;trivial
 by_cases h1:N1<b.length
 . rw [N (.inl h1),q1c];refine q0f rfl rfl ?_;refine defE mixed fi15 ?_;refine gQ ?_;refine eQ [] (t) ?_;refine eQ [2] (u) ?_;refine eQ [4] (q2W c1 0) ?_;refine eQ [4] (y) ?_;refine eQ [6] (q2W c 0) ?_;refine eQ [4] (q5a c1 N2 (by omega)) ?_;refine effP [2] (q5D b N1 h1) ?_;refine ⟨by simp,q1x _ _ _ _ _ _ _ _ _ _ _ _ _ _ λG=> ?_⟩;with_reducible refine sxE ?_;trivial
 rw [Z h1 h2];clear Z N;have B:=q5a c1 N2 (by omega);have C:=q5a b N1 (by omega);clear aa ab h1 h2 hb E;refine q0f rfl (q8n _) ?_;refine defE mixed fi15 ?_;refine gQ ?_;refine eQ [] (t) ?_;refine eQ [2] (u) ?_;refine eQ [4] (q2W c1 0) ?_;refine eQ [4] (y) ?_;refine eQ [6] (q2W c 0) ?_;refine eQ [4] (B) ?_;refine q0j [2] C rfl (by decide) (by repeat first|exact trivial|exact rfl|refine And.intro ?_ ?_) rfl rfl ?_;simp only [afterO,Out.ren,SV.ren,mgA,sig,SObj.ren,SV.renL,List.set,List.map,Ac];refine uQ 2 _ ?_;with_reducible refine sxE ?_
 clear t u y C B H J;refine z4Q [7] mixed ?_;refine gQ ?_;have y0:=z4h 0 (by decide) c 0 (Ak _) w;rw [Ap] at y0;cases L:needP 0 intP c with
 |error e=>
  obtain ⟨O,y0'⟩:=q8T y0 L;have I:needP 0 (cstP 5) c= .error e:=by rw [q8h,L]
  rw [show autIn c= .error e from q1g I];simp only [shiftP,finA];rw [q1c];refine q0v [6] (y0') rfl (by decide) ⟨rfl,rfl,trivial⟩ rfl rfl ?_ ?_
  . simp (maxSteps:=3000000) only [mgA,sig,q0z,q0F,SObj.ren,SV.ren,SV.renL,go_sem,↓zA,↓reduceIte,↓reduceDIte] <;>try simp only [zB]
  refine rnE ?_;refine z5T ?_;with_reducible refine sxE ?_
  refine ⟨by simp,q1x _ _ _ _ _ _ _ _ _ _ _ _ _ _ λG=> ?_⟩;with_reducible refine sxE ?_;trivial
 |ok x=>
 obtain ⟨v0,k0⟩:=x;have y0':=q9g y0 L;rw [Ai] at y0';have f0:=q0Y _ _ _ L;by_cases hv:v0=5;rotate_left
 . have I:needP 0 (cstP 5) c= .error 6:=by rw [q8h,L];simp only;rw [if_neg hv]
   rw [show autIn c= .error 6 from q1g I];simp only [shiftP,finA];rw [q1c];refine q0v [6] (y0') rfl (by decide) ⟨rfl,rfl,trivial⟩ rfl rfl ?_ ?_
   . simp (maxSteps:=3000000) only [mgA,sig,q0z,q0F,SObj.ren,SV.ren,SV.renL,go_sem,↓zA,↓reduceIte,↓reduceDIte] <;>try simp only [zB]
   refine rnE ?_;refine gQ ?_;rw [decide_eq_false hv];refine q0v [6] (q6k c k0) rfl (by decide) ⟨rfl,rfl,trivial⟩ rfl rfl ?_ ?_
   . simp (maxSteps:=3000000) only [mgA,sig,q0z,q0F,SObj.ren,SV.ren,SV.renL,go_sem,↓zA,↓reduceIte,↓reduceDIte] <;>try simp only [zB]
   refine rnE ?_;refine z5T ?_;with_reducible refine sxE ?_
   refine ⟨by simp,q1x _ _ _ _ _ _ _ _ _ _ _ _ _ _ λG=> ?_⟩;with_reducible refine sxE ?_;trivial
 have I:needP 0 (cstP 5) c= .ok ((),k0):=by rw [q8h,L];simp only;rw [if_pos hv]
 rw [show autIn c=_ from q7J I];refine q0v [6] (y0') rfl (by decide) ⟨rfl,rfl,trivial⟩ rfl rfl ?_ ?_
 . simp (maxSteps:=3000000) only [mgA,sig,q0z,q0F,SObj.ren,SV.ren,SV.renL,go_sem,↓zA,↓reduceIte,↓reduceDIte] <;>try simp only [zB]
 refine rnE ?_;refine gQ ?_;rw [decide_eq_true hv];refine q0v [6] (q4a c k0) rfl (by decide) ⟨rfl,rfl,trivial⟩ rfl rfl ?_ ?_
 . simp (maxSteps:=3000000) only [mgA,sig,q0z,q0F,SObj.ren,SV.ren,SV.renL,go_sem,↓zA,↓reduceIte,↓reduceDIte] <;>try simp only [zB]
 refine rnE ?_;refine gQ ?_;refine j1p ?_;refine gQ ?_;clear y0 y0' L I hv

 have y1:=j3k 1 (by decide) c k0 f0 w;cases P:needP 1 nameP (c.drop k0) with
 |error e=>obtain ⟨O,y'⟩:=q8T y1 P;rw [q1g P];simp only [shiftP,finA];rw [q1c];refine effP [6] (y') ?_;refine ⟨by simp,q1x _ _ _ _ _ _ _ _ _ _ _ _ _ _ λG=> ?_⟩;with_reducible refine sxE ?_;trivial
 |ok x=>
 obtain ⟨v1,j⟩:=x;have y':=q9g y1 P;rw [q1U P];have f1:=q2Y q0Y f0 P;have q1:=q5M j3j _ _ _ (by rw [Ag];omega) P;refine eQ [6] (y') ?_;clear y1 y' P;have y2:=k0c 2 (by decide) c (k0+j) f1 w;cases V:optQ 2 octP [] (λs=>decide (0< (s.length:Int))) (c.drop (k0+j)) with
 |error e=>
  rw [q1g V];simp only [shiftP,finA];rw [q1c];rcases z4m V with ⟨O,f⟩ | ⟨v,k,f,D⟩
  . have y':=q2B y2 f;refine effP [6] (y') ?_;refine ⟨by simp,q1x _ _ _ _ _ _ _ _ _ _ _ _ _ _ λG=> ?_⟩;with_reducible refine sxE ?_;trivial
  have y':=q1e y2 f;simp only [moR] at y';refine eQ [6] (y') ?_;rw [show decide (0< (v.length:Int))=false from D];refine effP [6] (q6k c ((k0+j)+k)) ?_;refine ⟨by simp,q1x _ _ _ _ _ _ _ _ _ _ _ _ _ _ λG=> ?_⟩;with_reducible refine sxE ?_;trivial
 |ok x=>
 obtain ⟨v2,m⟩:=x;rw [q1U V];have f2:=q2Y q9i f1 V;have q2:=z4R (Q:=(Ty.slice .u8).ok) ⟨Ak _,λ_ h=>by cases h⟩ z4Z _ _ _ (by rw [Ag];omega) V;apply z0V (q6K V)
 . intro f tail;obtain ⟨f,D⟩:=f;have y':=q1e y2 f;simp only [moR] at y';refine eQ [6] (y') ?_;rw [show decide (0< (v2.length:Int))=true from D];refine q0j [6] (q4a c ((k0+j)+m)) rfl (by decide) (by repeat first|exact trivial|exact rfl|refine And.intro ?_ ?_) rfl rfl ?_;simp only [afterO,Out.ren,SV.ren,mgA,sig,SObj.ren,SV.renL,List.set,List.map,Ac];refine q3A [7,38,39,40,41,42,43,44,45,46,47,48,49,50,51,52,53] rfl ?_;simp only [maskT,putT,AZ,Ca,Bp,Bk];exact tail
 . intro f tail;obtain ⟨f,Y⟩:=f;have y':PE Tryz.prog 73 [.agg [.ptr 0 0],rI ((2:Nat):Int),.fn 74 [] []] [rdr c (k0+j)] (.ret (.tup [.isl .u8 v2,rB false])) [rdr c ((k0+j)+m)]:=by have q':=q1e y2 f;simp only [moR] at q';rw [Y];exact q'
   refine eQ [6] (y') ?_;refine q0j [6] (q4a c ((k0+j)+m)) rfl (by decide) (by repeat first|exact trivial|exact rfl|refine And.intro ?_ ?_) rfl rfl ?_;simp only [afterO,Out.ren,SV.ren,mgA,sig,SObj.ren,SV.renL,List.set,List.map,Ac];refine q3A [7,38,39,40,41,42,43,44,45,46,47,48,49,50,51,52,53] rfl ?_;simp only [maskT,putT,AZ,Ca,Bp,Bk];exact tail
 refine gQ ?_;have y3:=z4h 3 (by decide) c (k0+j+m) f2 w;cases S:needP 3 intP (c.drop (k0+j+m)) with
 |error e=>obtain ⟨O,y'⟩:=q8T y3 S;rw [q1g S];simp only [shiftP,finA];rw [q1c];refine effP [6] (y') ?_;refine ⟨by simp,q1x _ _ _ _ _ _ _ _ _ _ _ _ _ _ λG=> ?_⟩;with_reducible refine sxE ?_;trivial
 |ok x=>
 obtain ⟨v3,o⟩:=x;have y':=q9g y3 S;rw [q1U S];have f3:=q2Y q0Y f2 S;refine eQ [6] (y') ?_;clear y3 y' S;have y4:=j2S 4 (by decide) c (k0+j+m+o) f3 w;cases R:needP 4 timeP (c.drop (k0+j+m+o)) with
 |error e=>obtain ⟨O,y'⟩:=q8T y4 R;rw [q1g R];simp only [shiftP,finA];rw [q1c];refine effP [6] (y') ?_;refine ⟨by simp,q1x _ _ _ _ _ _ _ _ _ _ _ _ _ _ λG=> ?_⟩;with_reducible refine sxE ?_;trivial
 |ok x=>
 obtain ⟨v4,q⟩:=x;have y':=q9g y4 R;rw [q1U R];have f4:=q2Y q0Y f3 R;refine eQ [6] (y') ?_;clear y4 y' R;have y5:=j9p 5 (by decide) c (k0+j+m+o+q) f4 w;cases W:optQ 5 keyP nKey (λk=> !decide (k.1=0)) (c.drop (k0+j+m+o+q)) with
 |error e=>
  rw [q1g W];simp only [shiftP,finA];rw [q1c];rcases z4m W with ⟨O,f⟩ | ⟨v,k,f,D⟩
  . have y':=q2B y5 f;refine effP [6] (y') ?_;refine ⟨by simp,q1x _ _ _ _ _ _ _ _ _ _ _ _ _ _ λG=> ?_⟩;with_reducible refine sxE ?_;trivial
  have y':=q1e y5 f;simp only [moR] at y';refine eQ [6] (y') ?_;rw [show (!decide (v.1=0))=false from D];refine effP [6] (q6k c ((k0+j+m+o+q)+k)) ?_;refine ⟨by simp,q1x _ _ _ _ _ _ _ _ _ _ _ _ _ _ λG=> ?_⟩;with_reducible refine sxE ?_;trivial
 |ok x=>
 obtain ⟨v5,z⟩:=x;rw [q1U W];have f5:=q2Y q9i f4 W;have q5:=z4R (Q:=KeyT.ok) ⟨trivial,trivial,Ak _,λ_ h=>by cases h⟩ j7W _ _ _ (by rw [Ag];omega) W;apply z0V (q6K W)
 . intro f tail;obtain ⟨f,D⟩:=f;have y':=q1e y5 f;simp only [moR] at y';refine eQ [6] (y') ?_;rw [show (!decide (v5.1=0))=true from D];refine q0j [6] (q4a c ((k0+j+m+o+q)+z)) rfl (by decide) (by repeat first|exact trivial|exact rfl|refine And.intro ?_ ?_) rfl rfl ?_;simp only [afterO,Out.ren,SV.ren,mgA,sig,SObj.ren,SV.renL,List.set,List.map,Ac];refine q3A [7,60,61,62,63,64,65,66,67,68,69,70,71,72,73,74,75] rfl ?_;simp only [maskT,putT,AZ,Ca,Bp,Bk];exact tail
 . intro f tail;obtain ⟨f,Y⟩:=f;have y':PE Tryz.prog 76 [.agg [.ptr 0 0],rI ((5:Nat):Int),.fn 77 [] []] [rdr c (k0+j+m+o+q)] (.ret (.tup [.agg (KeyT.cells v5),rB false])) [rdr c ((k0+j+m+o+q)+z)]:=by have q':=q1e y5 f;simp only [moR] at q';rw [Y];exact q'
   refine eQ [6] (y') ?_;refine q0j [6] (q4a c ((k0+j+m+o+q)+z)) rfl (by decide) (by repeat first|exact trivial|exact rfl|refine And.intro ?_ ?_) rfl rfl ?_;simp only [afterO,Out.ren,SV.ren,mgA,sig,SObj.ren,SV.renL,List.set,List.map,Ac];refine q3A [7,60,61,62,63,64,65,66,67,68,69,70,71,72,73,74,75] rfl ?_;simp only [maskT,putT,AZ,Ca,Bp,Bk];exact tail
 refine gQ ?_;have y6:=z4h 6 (by decide) c (k0+j+m+o+q+z) f5 w;cases X:needP 6 intP (c.drop (k0+j+m+o+q+z)) with
 |error e=>obtain ⟨O,y'⟩:=q8T y6 X;rw [q1g X];simp only [shiftP,finA];rw [q1c];refine effP [6] (y') ?_;refine ⟨by simp,q1x _ _ _ _ _ _ _ _ _ _ _ _ _ _ λG=> ?_⟩;with_reducible refine sxE ?_;trivial
 |ok x=>
 obtain ⟨v6,A⟩:=x;have y':=q9g y6 X;rw [q1U X];have f6:=q2Y q0Y f5 X;refine eQ [6] (y') ?_;clear y6 y' X;have y7:=j6F 7 (by decide) c (k0+j+m+o+q+z+A) f6 w;cases U:optQ 7 dataP [] (λd=>decide (0< (d.length:Int))) (c.drop (k0+j+m+o+q+z+A)) with
 |error e=>
  rw [q1g U];simp only [shiftP,finA];rw [q1c];rcases z4m U with ⟨O,f⟩ | ⟨v,k,f,D⟩
  . have y':=q2B y7 f;refine effP [6] (y') ?_;refine ⟨by simp,q1x _ _ _ _ _ _ _ _ _ _ _ _ _ _ λG=> ?_⟩;with_reducible refine sxE ?_;trivial
  have y':=q1e y7 f;simp only [moR] at y';refine eQ [6] (y') ?_;rw [show decide (0< (v.length:Int))=false from D];refine effP [6] (q6k c ((k0+j+m+o+q+z+A)+k)) ?_;refine ⟨by simp,q1x _ _ _ _ _ _ _ _ _ _ _ _ _ _ λG=> ?_⟩;with_reducible refine sxE ?_;trivial
 |ok x=>
 obtain ⟨v7,K⟩:=x;rw [q1U U];have f7:=q2Y q9i f6 U;have q7:=z4R (Q:=(Ty.slice PreT).ok) ⟨Ak _,λ_ h=>by cases h⟩ z9m _ _ _ (by rw [Ag];omega) U;apply z0V (q6K U)
 . intro f tail;obtain ⟨f,D⟩:=f;have y':=q1e y7 f;simp only [moR] at y';refine eQ [6] (y') ?_;rw [show decide (0< (v7.length:Int))=true from D];refine q0j [6] (q4a c ((k0+j+m+o+q+z+A)+K)) rfl (by decide) (by repeat first|exact trivial|exact rfl|refine And.intro ?_ ?_) rfl rfl ?_;simp only [afterO,Out.ren,SV.ren,mgA,sig,SObj.ren,SV.renL,List.set,List.map,Ac];refine q3A [7,79,80,81,82,83,84,85,86,87,88,89,90,91,92,93,94] rfl ?_;simp only [maskT,putT,AZ,Ca,Bp,Bk];exact tail
 . intro f tail;obtain ⟨f,Y⟩:=f;have y':PE Tryz.prog 78 [.agg [.ptr 0 0],rI ((7:Nat):Int),.fn 79 [] []] [rdr c (k0+j+m+o+q+z+A)] (.ret (.tup [.isl PreT v7,rB false])) [rdr c ((k0+j+m+o+q+z+A)+K)]:=by have q':=q1e y7 f;simp only [moR] at q';rw [Y];exact q'
   refine eQ [6] (y') ?_;refine q0j [6] (q4a c ((k0+j+m+o+q+z+A)+K)) rfl (by decide) (by repeat first|exact trivial|exact rfl|refine And.intro ?_ ?_) rfl rfl ?_;simp only [afterO,Out.ren,SV.ren,mgA,sig,SObj.ren,SV.renL,List.set,List.map,Ac];refine q3A [7,79,80,81,82,83,84,85,86,87,88,89,90,91,92,93,94] rfl ?_;simp only [maskT,putT,AZ,Ca,Bp,Bk];exact tail
 refine gQ ?_;simp only [shiftP,retP,finA];by_cases f:(k0+j+m+o+q+z+A+K) <c.length
 . rw [if_pos (by omega),q1c];refine effP [6] (q5D c (k0+j+m+o+q+z+A+K) f) ?_;refine ⟨by simp,q1x _ _ _ _ _ _ _ _ _ _ _ _ _ _ λG=> ?_⟩;with_reducible refine sxE ?_;trivial
 rw [if_neg (by omega)];refine q0j [6] (q5a c (k0+j+m+o+q+z+A+K) (by omega)) rfl (by decide) (by repeat first|exact trivial|exact rfl|refine And.intro ?_ ?_) rfl rfl ?_;simp only [afterO,Out.ren,SV.ren,mgA,sig,SObj.ren,SV.renL,List.set,List.map,Ac];have F:=q7B (v1,v2,(v4:Int),v3,v5,v6,v7) ⟨q1,q2,trivial,trivial,q5,trivial,q7⟩;refine uQ 2 _ ?_;with_reducible refine sxE ?_
 refine z4Q [7,0] mixed ?_;refine gQ ?_;cases I:vAut (v1,v2,(v4:Int),v3,v5,v6,v7) with
 |false=>
  rw [I] at F;rw [if_neg (by decide),q1c];refine cR F ?_;refine q0v [6] (q6k c (k0+j+m+o+q+z+A+K)) rfl (by decide) ⟨rfl,rfl,trivial⟩ rfl rfl ?_ ?_
  . simp (maxSteps:=3000000) only [mgA,sig,q0z,q0F,SObj.ren,SV.ren,SV.renL,go_sem,↓zA,↓reduceIte,↓reduceDIte] <;>try simp only [zB]
  refine rnE ?_;refine z5T ?_;with_reducible refine sxE ?_
  refine ⟨by simp,q1x _ _ _ _ _ _ _ _ _ _ _ _ _ _ λG=> ?_⟩;with_reducible refine sxE ?_;trivial
 |true=>
  rw [I] at F;rw [if_pos rfl,q7P];refine cR F ?_;refine q0v [6] (q4a c (k0+j+m+o+q+z+A+K)) rfl (by decide) ⟨rfl,rfl,trivial⟩ rfl rfl ?_ ?_
  . simp (maxSteps:=3000000) only [mgA,sig,q0z,q0F,SObj.ren,SV.ren,SV.renL,go_sem,↓zA,↓reduceIte,↓reduceDIte] <;>try simp only [zB]
  refine rnE ?_;refine gQ ?_;refine j1p ?_;refine gQ ?_;refine j7N _ _ λG=> ?_;with_reducible refine sxE ?_;trivial
def irg18:GI:=⟨33,[.cell 8 44,.tmp 9],[(.reg [o1 4 (.box 27 (.tmp 0)),o1 6 (.box 30 (.tmp 2)),o1 8 (.new 44 [(.int .i64 0),(.int .i64 0),(.slice none 0 0)]),o1 9 (.mov (ci 0))])],[.ic (.reg [o1 10 (.new 44 [(.int .i64 0),(.int .i64 0),(.slice none 0 0)])]),.ic (.reg [o1 14 (.ld (some 10) (.tmp 6)),o1 15 (.call (.func 10) [(.tmp 14)]),mv 13 15,ex 16 0 13,ex 17 1 13,mv 11 16,mv 12 17]),.ic (.reg [mv 18 12,o1 19 (.bin .neq 0 (.tmp 18) (ci 0))]),.gc (.tmp 19),.ic (.reg [o1 21 (.ld (some 3) (.tmp 4)),mv 22 1,mv 23 3,mv 24 11,o1 25 (.call (.func 90) [(.tmp 21),(.tmp 22),(.tmp 23),(.tmp 24)]),mv 20 25,ex 26 0 20,ex 27 1 20,o0 (.st 3 (.tmp 10) (.tmp 26)),mv 12 27]),.ic (.reg [mv 28 12,o1 29 (.bin .neq 0 (.tmp 28) (ci 0))]),.gc (.tmp 29),.ic (.reg [o1 30 (.ld (some 3) (.tmp 10)),o0 (.st 3 (.tmp 8) (.tmp 30)),o1 9 (.mov (ci 0))]),.ic .ret],[(.reg [o1 31 (.bld [(.int .i64 0),(.int .i64 0),(.slice none 0 0)] (.fields [(0,1),(1,1),(2,1)]) []),mv 32 12,o0 (.st 3 (.tmp 8) (.tmp 31)),mv 9 32]),.ret],[.skip,(.reg [o1 31 (.bld [(.int .i64 0),(.int .i64 0),(.slice none 0 0)] (.fields [(0,1),(1,1),(2,1)]) []),mv 32 12,o0 (.st 3 (.tmp 8) (.tmp 31)),mv 9 32]),.ret]⟩
def fig18:ginfo Tryz.prog 18=some irg18:=by kernel_rfl
attribute [go_sem] irg18
def irg20:GI:=⟨30,[.cell 6 30,.tmp 7],[(.reg [o1 3 (.box 27 (.tmp 0)),o1 5 (.box 44 (.tmp 2)),o1 6 (.new 30 [(.slice none 0 0),(.string ⟨#[]⟩),(.slice none 0 0),(.int .i64 0),(.int .i64 0),(.int .i64 0),(.int .i64 0),(.slice none 0 0),(.int .i64 0),(.slice none 0 0)]),o1 7 (.mov (ci 0))])],[.ic (.reg [o1 8 (.new 30 [(.slice none 0 0),(.string ⟨#[]⟩),(.slice none 0 0),(.int .i64 0),(.int .i64 0),(.int .i64 0),(.int .i64 0),(.slice none 0 0),(.int .i64 0),(.slice none 0 0)])]),.ic (.reg [o1 12 (.ld (some 3) (.tmp 3)),mv 13 1,o1 14 (.ld (some 3) (.tmp 5)),o1 15 (.call (.func 92) [(.tmp 12),(.tmp 13),(.tmp 14)]),mv 11 15,ex 16 0 11,ex 17 1 11,mv 9 16,mv 10 17]),.ic (.reg [mv 18 10,o1 19 (.bin .neq 0 (.tmp 18) (ci 0))]),.gc (.tmp 19),.ic (.reg [mv 21 9,o1 22 (.call (.func 15) [(.tmp 21)]),mv 20 22,ex 23 0 20,ex 24 1 20,o0 (.st 10 (.tmp 8) (.tmp 23)),mv 10 24]),.ic (.reg [mv 25 10,o1 26 (.bin .neq 0 (.tmp 25) (ci 0))]),.gc (.tmp 26),.ic (.reg [o1 27 (.ld (some 10) (.tmp 8)),o0 (.st 10 (.tmp 6) (.tmp 27)),o1 7 (.mov (ci 0))]),.ic .ret],[(.reg [o1 28 (.bld [(.slice none 0 0),(.string ⟨#[]⟩),(.slice none 0 0),(.int .i64 0),(.int .i64 0),(.int .i64 0),(.int .i64 0),(.slice none 0 0),(.int .i64 0),(.slice none 0 0)] (.fields [(0,2),(2,1),(3,1),(4,1),(5,3),(8,1),(9,1)]) []),mv 29 10,o0 (.st 10 (.tmp 6) (.tmp 28)),mv 7 29]),.ret],[.skip,(.reg [o1 28 (.bld [(.slice none 0 0),(.string ⟨#[]⟩),(.slice none 0 0),(.int .i64 0),(.int .i64 0),(.int .i64 0),(.int .i64 0),(.slice none 0 0),(.int .i64 0),(.slice none 0 0)] (.fields [(0,2),(2,1),(3,1),(4,1),(5,3),(8,1),(9,1)]) []),mv 29 10,o0 (.st 10 (.tmp 6) (.tmp 28)),mv 7 29]),.ret]⟩
def fig20:ginfo Tryz.prog 20=some irg20:=by kernel_rfl
attribute [go_sem] irg20
def z9K(k:Key)(a:Aut)(B:AutT.ok a)(u:Int)(f:List UInt8)(o w:Int)(y:List UInt8)(e:Int)(hs:vAut a=true->PC Tryz.prog 90 [.agg (KeyT.cells k),rI u,.isl .u8 f,.isl .u8 (autS a)] (.tup [.agg [rI o,rI w,.isl .u8 y],rI e])):
 PC Tryz.prog 18 [.agg (KeyT.cells k),rI u,.agg (AutT.cells a),.isl .u8 f] (if vAut a=true then if e=0 then .tup [.agg [rI o,rI w,.isl .u8 y],rI 0] else .tup [.agg [rI 0,rI 0,.isl .u8 []],rI e] else .tup [.agg [rI 0,rI 0,.isl .u8 []],rI 2]):=by
 have c1:=q5V a B;cases n:vAut a with
 |false=>
  rw [n] at c1;simp only [if_false,A2,if_true] at c1⊢;obtain ⟨z,A,C⟩:=k;obtain ⟨c,s,t,m,x,q,d⟩:=a;refine q0f rfl rfl ?_;refine z7s fig18 (q0p mixed 600 _ ?_);simp (maxSteps:=3000000) only [irg18,go_sem,↓zA,↓reduceIte,↓reduceDIte] <;>try simp only [zB]
  simp only [GoI];refine gQ ?_;refine gQ ?_;refine cQ c1 ?_;refine gQ ?_;refine gQ ?_;trivial
 |true=>
  rw [n] at c1;simp only [if_true,reduceIte] at c1⊢;replace hs:=hs n;obtain ⟨z,A,C⟩:=k;obtain ⟨c,s,t,m,x,q,d⟩:=a;by_cases j:e=0
  . subst j;simp only [if_true,reduceIte];refine q0f rfl rfl ?_;refine z7s fig18 (q0p mixed 600 _ ?_);simp (maxSteps:=3000000) only [irg18,go_sem,↓zA,↓reduceIte,↓reduceDIte] <;>try simp only [zB]
    simp only [GoI];refine gQ ?_;refine gQ ?_;refine cQ c1 ?_;refine gQ ?_;refine gQ ?_;refine cQ hs ?_;refine gQ ?_;refine gQ ?_;refine gQ ?_;trivial
  rw [if_neg j];refine q0f rfl rfl ?_;refine z7s fig18 (q0p mixed 600 _ ?_);simp (maxSteps:=3000000) only [irg18,go_sem,↓zA,↓reduceIte,↓reduceDIte] <;>try simp only [zB]
  simp only [GoI];refine gQ ?_;refine gQ ?_;refine cQ c1 ?_;refine gQ ?_;refine gQ ?_;refine cQ hs ?_;refine gQ ?_;refine ⟨λ_=> ?_,λh=>absurd h j⟩;refine gQ ?_;trivial
def j9k(k:Key)(u:Int)(c f:Int)(j:List UInt8)(e:Int)(m:e≠0)(n:List UInt8)(o:PC Tryz.prog 92 [.agg (KeyT.cells k),rI u,.agg [rI c,rI f,.isl .u8 j]] (.tup [.isl .u8 n,rI e])):
 PC Tryz.prog 20 [.agg (KeyT.cells k),rI u,.agg [rI c,rI f,.isl .u8 j]] (.tup [zAut,rI e]):=by
 obtain ⟨k1,k2,k3⟩:=k;unfold zAut;refine q0f rfl rfl ?_;refine z7s fig20 (q0p mixed 600 _ ?_);simp (maxSteps:=3000000) only [irg20,go_sem,↓zA,↓reduceIte,↓reduceDIte] <;>try simp only [zB]
 simp only [GoI];refine gQ ?_;refine gQ ?_;refine cQ o ?_;refine gQ ?_;refine ⟨λ_=> ?_,λh=>absurd h m⟩;refine gQ ?_;trivial
def j1f(k:Key)(u:Int)(h j:Int)(n:List UInt8)(f:List UInt8)(y:f.length<=1099511627776)(o:PC Tryz.prog 92 [.agg (KeyT.cells k),rI u,.agg [rI h,rI j,.isl .u8 n]] (.tup [.isl .u8 f,rI 0])):
 PC Tryz.prog 20 [.agg (KeyT.cells k),rI u,.agg [rI h,rI j,.isl .u8 n]] (autDS (autD f)):=by
 have e:=q5x f y;obtain ⟨k1,k2,k3⟩:=k;cases w:autD f with
 |some a=>
  rw [w] at e;obtain ⟨c,s,t,m,x,q,d⟩:=a;unfold autDS at e⊢;refine q0f rfl rfl ?_;refine z7s fig20 (q0p mixed 600 _ ?_);simp (maxSteps:=3000000) only [irg20,go_sem,↓zA,↓reduceIte,↓reduceDIte] <;>try simp only [zB]
  simp only [GoI];refine gQ ?_;refine gQ ?_;refine cQ o ?_;refine gQ ?_;refine gQ ?_;refine cQ e ?_;refine gQ ?_;refine gQ ?_;refine gQ ?_;trivial
 |none=>
  rw [w] at e;unfold autDS zAut at e⊢;refine q0f rfl rfl ?_;refine z7s fig20 (q0p mixed 600 _ ?_);simp (maxSteps:=3000000) only [irg20,go_sem,↓zA,↓reduceIte,↓reduceDIte] <;>try simp only [zB]
  simp only [GoI];refine gQ ?_;refine gQ ?_;refine cQ o ?_;refine gQ ?_;refine gQ ?_;refine cQ e ?_;refine gQ ?_;refine gQ ?_;trivial
def forceN(x:Nat)(f:Nat->α):α:=match x with
 |0=>f 0
 |n+1=>f (n+1)
theorem q1a(x:Nat)(f:Nat->α):forceN x f=f x:=by cases x<;>rfl
def rotN(n x:Nat):Nat:=x / 2^ n+x*2^ (32-n)%4294967296
def sg0N(x:Nat):Nat:=(rotN 7 x^^^ rotN 18 x) ^^^ (x / 8)
def sg1N(x:Nat):Nat:=(rotN 17 x^^^ rotN 19 x) ^^^ (x / 1024)
def bs0N(x:Nat):Nat:=(rotN 2 x^^^ rotN 13 x) ^^^ rotN 22 x
def bs1N(x:Nat):Nat:=(rotN 6 x^^^ rotN 11 x) ^^^ rotN 25 x
def chN(e f g:Nat):Nat:=(e&&& f) ^^^ ((4294967295-e) &&& g)
def majN(a b c:Nat):Nat:=((a&&& b) ^^^ (a&&& c)) ^^^ (b&&& c)
def q4X(n x:Nat):rotW n (x:Int)=(rotN n x:Int):=by unfold rotW rotN;simp
def q4h(a b:Nat):xorW (a:Int) (b:Int)=((a^^^ b:Nat):Int):=by simp [xorW]
def z2w(a b:Nat):andW (a:Int) (b:Int)=((a&&& b:Nat):Int):=by simp [andW]
def k1u(x:Nat):sg0 (x:Int)=(sg0N x:Int):=by unfold sg0 sg0N;rw [q4X,q4X,q4h,show ((x:Int) / 8)=((x / 8:Nat):Int) by simp,q4h]
def k1y(x:Nat):sg1 (x:Int)=(sg1N x:Int):=by unfold sg1 sg1N;rw [q4X,q4X,q4h,show ((x:Int) / 1024)=((x / 1024:Nat):Int) by simp,q4h]
def k1M(x:Nat):bs0 (x:Int)=(bs0N x:Int):=by unfold bs0 bs0N;rw [q4X,q4X,q4X,q4h,q4h]
def k1w(x:Nat):bs1 (x:Int)=(bs1N x:Int):=by unfold bs1 bs1N;rw [q4X,q4X,q4X,q4h,q4h]
def k1R{e f g:Nat}(he:e<=4294967295):chW (e:Int) (f:Int) (g:Int)=(chN e f g:Int):=by unfold chW chN;rw [show (4294967295- (e:Int))=((4294967295-e:Nat):Int) by omega,z2w,z2w,q4h]
def j9v(a b c:Nat):majW (a:Int) (b:Int) (c:Int)=(majN a b c:Int):=by unfold majW majN;rw [z2w,z2w,z2w,q4h,q4h]
def schedN:Nat->List Nat->List Nat
 |0,l=>l
 |n+1,l=>forceN ((sg1N (l.getD 1 0)+l.getD 6 0+sg0N (l.getD 14 0)+l.getD 15 0)%4294967296) λw=>schedN n (w :: l)
def wN(b:List UInt8)(t:Nat):Nat:=(wS b t).toNat
def q5d(b:List UInt8)(t:Nat):((wN b t:Nat):Int)=wS b t:=by have:=z8I b t;unfold wN;omega
def wsR(b:List UInt8):Nat->List Nat
 |0=>[]
 |t+1=>wN b t :: wsR b t
def q8N(b:List UInt8):∀ {t i:Nat},i<t->(wsR b t).getD i 0=wN b (t-1-i)
 |t+1,0,_=>rfl
 |t+1,i+1,h=>by show (wsR b t).getD i 0=_;rw [q8N b (by omega)];congr 1;omega
def z6B(b:List UInt8):∀ (n t:Nat),16<=t->schedN n (wsR b t)=wsR b (t+n)
 |0,t,_=>rfl
 |n+1,t,h=>by
  rw [schedN,q1a,q8N b (by omega),q8N b (by omega),q8N b (by omega),q8N b (by omega)];have e:(sg1N (wN b (t-1-1))+wN b (t-1-6)+sg0N (wN b (t-1-14))+wN b (t-1-15))%4294967296=wN b t:=by have c:=j6V (b:=b) h;rw [<-q5d,<-q5d,<-q5d,<-q5d,<-q5d,k1y,k1u] at c;rw [show t-1-1=t-2 by omega,show t-1-6=t-7 by omega,show t-1-14=t-15 by omega,show t-1-15=t-16 by omega];unfold W32 at c;omega
  rw [e];have:=z6B b n (t+1) (by omega);rw [show t+1+n=t+ (n+1) by omega] at this;exact this
def rndN:List Nat->List Nat->Nat->Nat->Nat->Nat->Nat->Nat->Nat->Nat->List Nat
 |k :: ks,w :: ws,a,b,c,d,e,f,g,h=>forceN (h+bs1N e+chN e f g+k+w) λt1=>forceN ((t1+ (bs0N a+majN a b c))%4294967296) λa'=>forceN ((d+t1)%4294967296) λe'=>rndN ks ws a' a b c e' e f g
 |_,_,a,b,c,d,e,f,g,h=>[a,b,c,d,e,f,g,h]
def cast8(l:List Nat):List Int:=l.map λ(n:Nat)=>(n:Int)
def k1P{w a b c d e f g h:Nat}(m:e<=4294967295):rnd (k:Int) (w:Int) (cast8 [a,b,c,d,e,f,g,h])=cast8 [(h+bs1N e+chN e f g+k+w+ (bs0N a+majN a b c))%4294967296,a,b,c,(d+ (h+bs1N e+chN e f g+k+w))%4294967296,e,f,g]:=by
 have j:t1S (k:Int) (w:Int) (cast8 [a,b,c,d,e,f,g,h])=((h+bs1N e+chN e f g+k+w:Nat):Int):=by show (h:Int)+bs1 (e:Int)+chW (e:Int) (f:Int) (g:Int)+k+w=_;rw [k1w,k1R m];omega
 have n:t2S (cast8 [a,b,c,d,e,f,g,h])=((bs0N a+majN a b c:Nat):Int):=by show bs0 (a:Int)+majW (a:Int) (b:Int) (c:Int)=_;rw [k1M,j9v];omega
 unfold rnd;rw [j,n];simp only [cast8,AC,BN,AF,AM];unfold W32;congr 1
def kN(t:Nat):Nat:=(kS t).toNat
def j8T{t:Nat}(h:t<64):((kN t:Nat):Int)=kS t:=by have:=k1L t h;unfold kN;omega
def j0g(b:List UInt8)(h:List Int):∀ (n t:Nat) (a j c d e f g m:Nat),e<=4294967295->t+n<=64->rnds b h t=cast8 [a,j,c,d,e,f,g,m]->
 rnds b h (t+n)=cast8 (rndN ((List.range' t n).map kN) ((List.range' t n).map (wN b)) a j c d e f g m)
 |0,t,a,j,c,d,e,f,g,m,he,ht,hr=>hr
 |n+1,t,a,j,c,d,e,f,g,m,he,ht,hr=>by rw [Cy,AC,AC,rndN,q1a,q1a,q1a];have o:rnds b h (t+1)=rnd (kS t) (wS b t) (rnds b h t):=rfl;rw [hr,<-j8T (by omega),<-q5d,k1P he] at o;have:=j0g b h n (t+1) _ _ _ _ _ _ _ _ (by omega) (by omega) o;rw [show t+1+n=t+ (n+1) by omega] at this;exact this
def kList:List Nat:=dat_ref04_constants.map Int.toNat
def j3B:(List.range' 0 64).map kN=kList:=by decide
theorem j1I(b:List UInt8):∀t,(wsR b t).reverse=(List.range t).map (wN b)
 |0=>rfl
 |t+1=>by rw [wsR,List.reverse_cons,j1I b t,Bm,BF];rfl
def wbN(b:List UInt8)(t:Nat):Nat:=256* (256* (256* (b.getD (4*t) 0).toNat+ (b.getD (4*t+1) 0).toNat)+ (b.getD (4*t+2) 0).toNat)+ (b.getD (4*t+3) 0).toNat
def k0m(b:List UInt8){t:Nat}(h:t<16):wbN b t=wN b t:=by have c:=q5d b t;rw [j6m h] at c;simp only [wdP,byI,AJ] at c;unfold wbN;omega
def wbR(b:List UInt8):Nat->List Nat->List Nat
 |0,l=>l
 |n+1,l=>forceN (wbN b (15-n)) λw=>wbR b n (w :: l)
def j5u(b:List UInt8):∀n,n<=16->wbR b n (wsR b (16-n))=wsR b 16
 |0,_=>rfl
 |n+1,h=>by rw [wbR,q1a,k0m b (by omega)];have:=j5u b n (by omega);rw [show 16-n=(15-n)+1 by omega] at this;rw [show 16- (n+1)=15-n by omega];exact this
def blkE(a b c d e f g h:Nat):List Nat->List Nat
 | [x0,x1,x2,x3,x4,x5,x6,x7]=>[(a+x0)%4294967296,(b+x1)%4294967296,(c+x2)%4294967296,(d+x3)%4294967296,(e+x4)%4294967296,(f+x5)%4294967296,(g+x6)%4294967296,(h+x7)%4294967296]
 |_=>[]
def blkN(bl:List UInt8)(a b c d e f g h:Nat):List Nat:=blkE a b c d e f g h (rndN kList (schedN 48 (wbR bl 16 [])).reverse a b c d e f g h)
def blkF(bl:List UInt8):List Nat->List Nat
 | [a,b,c,d,e,f,g,h]=>forceN a λa=>forceN b λb=>forceN c λc=>forceN d λd=>forceN e λe=>forceN f λf=>forceN g λg=>forceN h λh=>blkN bl a b c d e f g h
 |_=>[]
def z9N(j:List UInt8)(a b c d e f g h:Nat):blkF j [a,b,c,d,e,f,g,h]=blkN j a b c d e f g h:=by simp only [blkF,q1a]
variable {r:List Nat}
theorem j8X(a b c d e f g h:Nat)(m:r.length=8):(blkE a b c d e f g h r).length=8/\∀x∈blkE a b c d e f g h r,x<=4294967295:=by
 match r,m with
 | [x0,x1,x2,x3,x4,x5,x6,x7],_=>refine ⟨rfl,λx j=> ?_⟩;simp only [blkE,A3,Cb,or_false] at j;rcases j with rfl|rfl|rfl|rfl|rfl|rfl|rfl|rfl<;>omega
def j7h(a b c d e f g h:Nat)(j:r.length=8):((List.range 8).map λi=>((cast8 [a,b,c,d,e,f,g,h]).getD i 0+ (cast8 r).getD i 0)%W32)=cast8 (blkE a b c d e f g h r):=by
 match r,j with
 | [x0,x1,x2,x3,x4,x5,x6,x7],_=>simp [cast8,blkE,Bm,W32]
def z1C:∀ (j ws:List Nat) (a b c d e f g h:Nat),(rndN j ws a b c d e f g h).length=8
 | [],_,a,b,c,d,e,f,g,h=>by unfold rndN;rfl
 |_ :: _,[],a,b,c,d,e,f,g,h=>by unfold rndN;rfl
 |k :: j,w :: ws,a,b,c,d,e,f,g,h=>by rw [rndN,q1a,q1a,q1a];exact z1C j ws _ _ _ _ _ _ _ _
def j6H(c:List UInt8):(List.range' 0 64).map (wN c)=(schedN 48 (wbR c 16 [])).reverse:=by have e:wbR c 16 []=wsR c 16:=j5u c 16 (by decide);rw [e,z6B c 48 16 (by decide),j1I,List.range_eq_range']
theorem j9i(j:List UInt8){a b c d e f g h:Nat}(n:e<=4294967295):blkS j (cast8 [a,b,c,d,e,f,g,h])=cast8 (blkF j [a,b,c,d,e,f,g,h]):=by have m:=j0g j (cast8 [a,b,c,d,e,f,g,h]) 64 0 a b c d e f g h n (by decide) rfl;rw [j3B,j6H] at m;rw [z9N];unfold blkN blkS;have o:=z1C kList (schedN 48 (wbR j 16 [])).reverse a b c d e f g h;generalize rndN kList (schedN 48 (wbR j 16 [])).reverse a b c d e f g h=r at*;rw [Ai] at m;rw [m];exact j7h a b c d e f g h o
def hashF(p:List UInt8):Nat->List Nat
 |0=>[0x6a09e667,0xbb67ae85,0x3c6ef372,0xa54ff53a,0x510e527f,0x9b05688c,0x1f83d9ab,0x5be0cd19]
 |k+1=>blkF ((p.take (64*k+64)).drop (64*k)) (hashF p k)
variable {l:List Nat}
def j8I(j:List UInt8)(h:l.length=8):(blkF j l).length=8/\∀x∈blkF j l,x<=4294967295:=by
 match l,h with
 | [a,b,c,d,e,f,g,h],_=>rw [z9N];exact j8X a b c d e f g h (z1C _ _ _ _ _ _ _ _ _ _)
def z6J(p:List UInt8):∀k,(hashF p k).length=8/\∀x∈hashF p k,x<=4294967295
 |0=>⟨rfl,λx c=>by simp [hashF] at c;omega⟩
 |k+1=>j8I _ (z6J p k).1
theorem z5h(p:List UInt8):∀k,hashS p k=cast8 (hashF p k)
 |0=>rfl
 |k+1=>by
  rw [hashS,z5h p k,hashF];have h:=z6J p k;generalize hashF p k=l at*;match l,h with
  | [a,b,c,d,e,f,g,h'],⟨_,h2⟩=>exact j9i _ (h2 e (by simp))
def wordF(l:List Nat)(i:Nat):UInt8:=UInt8.ofNat ((l.getD (i / 4) 0) / 2^ (24-8* (i%4))%256)
def shaF(b:List UInt8):List UInt8:=(List.range 32).map (wordF (hashF (padS b) (blksN b)))
theorem j1D(b:List UInt8):shaS b=shaF b:=by
 unfold shaS shaF bytesS;rw [z5h];apply Bn;intro i hi;have key:∀ (l:List Nat) (j:Nat),((cast8 l).getD j 0).toNat=l.getD j 0:=λl j=>by unfold cast8;rw [Ad,Ad,AP];cases l[j]?<;>rfl
 unfold wordB wordF;rw [key]
def frcL{α:Type}:List Nat->(List Nat->α)->α
 | [],f=>f []
 |x :: l,f=>forceN x λy=>frcL l λm=>f (y :: m)
theorem q3S{α:Type}:∀ (l:List Nat) (f:List Nat->α),frcL l f=f l
 | [],f=>rfl
 |x :: l,f=>by rw [frcL,q1a,q3S l]
def obN(l:List Nat):List UInt8:=l.map UInt8.ofNat
def tbN(l:List UInt8):List Nat:=l.map UInt8.toNat
def j2Q(l:List UInt8):obN (tbN l)=l:=by unfold obN tbN;rw [BM];exact (Bn λx _=>AR).trans (List.map_id _)
def q6G(a b:Nat):UInt8.ofNat (a^^^ b)=UInt8.ofNat a^^^ UInt8.ofNat b:=by apply A5.1;rw [CX,Bl,Bl,Bl,<-Nat.xor_mod_two_pow]
def sTabN:Nat:=(dat_ref06_substitutes:List UInt8).foldr (λc a=>c.toNat+256*a) 0
def sbN(tb n:Nat):Nat:=tb / 2^ (8* (n%256))%256
def x2N(n:Nat):Nat:=(2* (n%256)) ^^^ (n%256 / 128*283)
def j9X:forceN sTabN (λc=>(List.range 256).all λm=>(subS (UInt8.ofNat m)).toNat==sbN c m)=true:=by kernel_rfl
def z6b:((List.range 256).all λm=>(mulS 2 (UInt8.ofNat m)).toNat==x2N m%256&& ((mulS 3 (UInt8.ofNat m)).toNat==(x2N m^^^ m)%256&& ((mulS 1 (UInt8.ofNat m)).toNat==m&& (dblS (UInt8.ofNat m)).toNat==x2N m%256)))=true:=by kernel_rfl
def all256{p:Nat->Bool}(h:(List.range 256).all p=true)(m:Nat):p (m%256)=true:=by rw [Br] at h;exact h _ (BQ.2 (CW _ (by decide)))
def q3u(n:Nat):UInt8.ofNat (n%256)=UInt8.ofNat n:=by apply A5.1;rw [Bl,Bl,Nat.mod_mod]
def z2K{b:UInt8}{n:Nat}(h:b.toNat=n):b=UInt8.ofNat n:=by rw [<-h,AR]
def k1c(n:Nat):subS (UInt8.ofNat n)=UInt8.ofNat (sbN sTabN n):=by have h:=j9X;rw [q1a] at h;have c:=all256 h n;rw [beq_iff_eq,q3u] at c;refine (z2K c).trans ?_;unfold sbN;rw [Nat.mod_mod]
def z6O(n:Nat):x2N (n%256)=x2N n:=by unfold x2N;rw [Nat.mod_mod]
def j0f(n:Nat):mulS 2 (UInt8.ofNat n)=UInt8.ofNat (x2N n):=by have c:=all256 z6b n;simp only [Aj,beq_iff_eq,q3u,z6O] at c;rw [z2K c.1,q3u]
def j6E(n:Nat):mulS 3 (UInt8.ofNat n)=UInt8.ofNat (x2N n^^^ n):=by have c:=all256 z6b n;simp only [Aj,beq_iff_eq,q3u,z6O] at c;rw [z2K c.2.1,q3u,q6G,q3u,q6G]
def j5P(n:Nat):mulS 1 (UInt8.ofNat n)=UInt8.ofNat n:=by have c:=all256 z6b n;simp only [Aj,beq_iff_eq,q3u,z6O] at c;rw [z2K c.2.2.1,q3u]
def j9J(n:Nat):dblS (UInt8.ofNat n)=UInt8.ofNat (x2N n):=by have c:=all256 z6b n;simp only [Aj,beq_iff_eq,q3u,z6O] at c;rw [z2K c.2.2.2,q3u]
theorem j8c(g:Nat->UInt8):fS g= [g 0,g 1,g 2,g 3,g 4,g 5,g 6,g 7,g 8,g 9,g 10,g 11,g 12,g 13,g 14,g 15]:=rfl
def xorL(a b:List Nat):List Nat:=List.zipWith (· ^^^ ·) a b
theorem len16(h:l.length=16):∃a b c d e f g i j k m n o p q r,l= [a,b,c,d,e,f,g,i,j,k,m,n,o,p,q,r]:=by
 match l,h with
 | [a,b,c,d,e,f,g,i,j,k,m,n,o,p,q,r],_=>exact ⟨a,b,c,d,e,f,g,i,j,k,m,n,o,p,q,r,rfl⟩
theorem z1q{a b:List Nat}(c:a.length=16)(e:b.length=16):(xorL a b).length=16:=by unfold xorL;rw [List.length_zipWith,c,e];rfl
def j5I{a b:List Nat}(e:a.length=16)(c:b.length=16):xorS (obN a) (obN b)=obN (xorL a b):=by obtain ⟨a0,a1,a2,a3,a4,a5,a6,a7,a8,a9,aa,ab,ac,ad,ae,af,rfl⟩:=len16 e;obtain ⟨b0,b1,b2,b3,b4,b5,b6,b7,b8,b9,ba,bb,bc,bd,be,bf,rfl⟩:=len16 c;unfold xorS;rw [j8c];simp only [obN,xorL,List.zipWith_cons_cons,List.zipWith_nil_left,AC,BN,q6G,AF,AM]
def shN(tb:Nat):List Nat->List Nat
 | [s0,s1,s2,s3,s4,s5,s6,s7,s8,s9,sa,sb,sc,sd,se,sf]=>[sbN tb s0,sbN tb s5,sbN tb sa,sbN tb sf,sbN tb s4,sbN tb s9,sbN tb se,sbN tb s3,sbN tb s8,sbN tb sd,sbN tb s2,sbN tb s7,sbN tb sc,sbN tb s1,sbN tb s6,sbN tb sb]
 |_=>[]
def colN(a b c d:Nat)(l:List Nat):List Nat:=(((x2N a^^^ (x2N b^^^ b)) ^^^ c) ^^^ d) :: (((a^^^ x2N b) ^^^ (x2N c^^^ c)) ^^^ d) :: (((a^^^ b) ^^^ x2N c) ^^^ (x2N d^^^ d)) :: ((((x2N a^^^ a) ^^^ b) ^^^ c) ^^^ x2N d) :: l
def mcN:List Nat->List Nat
 | [s0,s1,s2,s3,s4,s5,s6,s7,s8,s9,sa,sb,sc,sd,se,sf]=>colN s0 s1 s2 s3 (colN s4 s5 s6 s7 (colN s8 s9 sa sb (colN sc sd se sf [])))
 |_=>[]
theorem j7a(h:l.length=16)(c:Nat):(shN c l).length=16:=by obtain ⟨a0,a1,a2,a3,a4,a5,a6,a7,a8,a9,aa,ab,ac,ad,ae,af,rfl⟩:=len16 h;rfl
theorem j8y(h:l.length=16):(mcN l).length=16:=by obtain ⟨a0,a1,a2,a3,a4,a5,a6,a7,a8,a9,aa,ab,ac,ad,ae,af,rfl⟩:=len16 h;rfl
theorem k1G(h:l.length=16):shfS (obN l)=obN (shN sTabN l):=by obtain ⟨a0,a1,a2,a3,a4,a5,a6,a7,a8,a9,aa,ab,ac,ad,ae,af,rfl⟩:=len16 h;unfold shfS;rw [j8c];simp only [obN,shN,AC,BN,<-k1c];rfl
def k0J(b f:List UInt8)(c r:Nat):mixA b f c r 4=((mulS (f.getD ((0+4-r)%4) 0) (b.getD (4*c+0) 0) ^^^ mulS (f.getD ((1+4-r)%4) 0) (b.getD (4*c+1) 0)) ^^^ mulS (f.getD ((2+4-r)%4) 0) (b.getD (4*c+2) 0)) ^^^ mulS (f.getD ((3+4-r)%4) 0) (b.getD (4*c+3) 0):=by simp only [mixA,BI]
def k1B(h:l.length=16):mixS (obN l) [2,3,1,1]=obN (mcN l):=by obtain ⟨a0,a1,a2,a3,a4,a5,a6,a7,a8,a9,aa,ab,ac,ad,ae,af,rfl⟩:=len16 h;unfold mixS;rw [j8c];simp only [k0J,obN,mcN,colN,AC,BN,q6G,<-j0f];simp only [Nat.reduceDiv,Nat.reduceMod,Nat.reduceAdd,Nat.reduceSub,Nat.reduceMul,AF,AM,j5P];simp only [j6E,q6G,<-j0f]
def nextK(tb p:Nat):List Nat->List Nat
 | [k0,k1,k2,k3,k4,k5,k6,k7,k8,k9,ka,kb,kc,kd,ke,kf]=>
  frcL [k0^^^ (sbN tb kd^^^ p),k1^^^ sbN tb ke,k2^^^ sbN tb kf,k3^^^ sbN tb kc] λw=>
  frcL (xorL [k4,k5,k6,k7] w) λx=>frcL (xorL [k8,k9,ka,kb] x) λy=>w++x++y++xorL [kc,kd,ke,kf] y
 |_=>[]
def rkyC{α:Type}(tb:Nat):Nat->Nat->List Nat->(List (List Nat)->α)->α
 |0,_,k,f=>f [k]
 |n+1,p,k,f=>frcL (nextK tb p k) λk'=>forceN (x2N p) λp'=>rkyC tb n p' k' λl=>f (k :: l)
def rkyN(tb:Nat):Nat->Nat->List Nat->List (List Nat)
 |0,_,k=>[k]
 |n+1,p,k=>k :: rkyN tb n (x2N p) (nextK tb p k)
theorem z3I{α:Type}(c:Nat):∀ (n p:Nat) (k:List Nat) (f:List (List Nat)->α),rkyC c n p k f=f (rkyN c n p k)
 |0,_,_,_=>rfl
 |n+1,p,k,f=>by rw [rkyC,q3S,q1a,z3I c n];rfl
def okK(key:List UInt8)(r:Nat)(l:List Nat):Prop:=l.length=16/\∀j,j<16->(wordsS key).getD (16*r+j) 0=UInt8.ofNat (l.getD j 0)
variable {key:List UInt8}
theorem j9b(D:key.length=16){r p:Nat}(hr:r<10)(h:okK key r l)(o:facS key (4*r+4)=UInt8.ofNat p):okK key (r+1) (nextK sTabN p l)/\facS key (4* (r+1)+4)=UInt8.ofNat (x2N p):=by
 obtain ⟨W,c⟩:=h;obtain ⟨k0,k1,k2,k3,k4,k5,k6,k7,k8,k9,ka,kb,kc,C,x,I,rfl⟩:=len16 W;have e:∀ (i j:Nat),i<4->j<4->(wordsS key).getD (16* (r+1)+ (4*i+j)) 0=(wordsS key).getD (16*r+ (4*i+j)) 0^^^ (lastS (wordsS key) (facS key (4*r+4+i)) (4*r+4+i)).getD j 0:=λi j hi f=>by have:=q9w key D (i:=4*r+4+i) (j:=j) (by omega) (by omega) f;rw [show 4* (4*r+4+i)+j=16* (r+1)+ (4*i+j) by omega,show 4* (4*r+4+i-4)+j=16*r+ (4*i+j) by omega] at this;exact this
 have S:lastS (wordsS key) (facS key (4*r+4)) (4*r+4)= [UInt8.ofNat (sbN sTabN C) ^^^ UInt8.ofNat p,UInt8.ofNat (sbN sTabN x),UInt8.ofNat (sbN sTabN I),UInt8.ofNat (sbN sTabN kc)]:=by unfold lastS;rw [if_pos (by omega),show 4* (4*r+4) -3=16*r+13 by omega,show 4* (4*r+4) -2=16*r+14 by omega,show 4* (4*r+4) -1=16*r+15 by omega,show 4* (4*r+4) -4=16*r+12 by omega,c 13 (by decide),c 14 (by decide),c 15 (by decide),c 12 (by decide),o];simp only [AF,AM,k1c]
 have n:∀i,1<=i->i<4->lastS (wordsS key) (facS key (4*r+4+i)) (4*r+4+i)= [(wordsS key).getD (16* (r+1)+ (4* (i-1)+0)) 0,(wordsS key).getD (16* (r+1)+ (4* (i-1)+1)) 0,(wordsS key).getD (16* (r+1)+ (4* (i-1)+2)) 0,(wordsS key).getD (16* (r+1)+ (4* (i-1)+3)) 0]:=λi h1 h2=>by unfold lastS;rw [if_neg (by omega),show 4* (4*r+4+i) -4=16* (r+1)+ (4* (i-1)+0) by omega,show 4* (4*r+4+i) -3=16* (r+1)+ (4* (i-1)+1) by omega,show 4* (4*r+4+i) -2=16* (r+1)+ (4* (i-1)+2) by omega,show 4* (4*r+4+i) -1=16* (r+1)+ (4* (i-1)+3) by omega]
 have c0:=λj f=>e 0 j (by decide) f;have c1:=λj f=>e 1 j (by decide) f;have c2:=λj f=>e 2 j (by decide) f;have c3:=λj f=>e 3 j (by decide) f;simp only [AJ,S] at c0;rw [n 1 (by decide) (by decide)] at c1;rw [n 2 (by decide) (by decide)] at c2;rw [n 3 (by decide) (by decide)] at c3;simp only [Nat.reduceSub,Nat.reduceMul,Nat.reduceAdd,Ai,AJ] at c0 c1 c2 c3;have U:facS key (4* (r+1)+4)=UInt8.ofNat (x2N p):=by rw [show 4* (r+1)+4=4*r+4+1+1+1+1 by omega,q4A key (by omega),if_neg (by omega),q4A key (by omega),if_neg (by omega),q4A key (by omega),if_neg (by omega),q4A key (by omega),if_pos (by omega),o,j9J]
 refine ⟨⟨?_,?_⟩,U⟩
 . simp only [nextK,q3S,xorL];rfl
 have Q:=c0 0 (by decide);have G:=c0 1 (by decide);have q:=c0 2 (by decide);have t:=c0 3 (by decide);have d4:=c1 0 (by decide);have X:=c1 1 (by decide);have J:=c1 2 (by decide);have H:=c1 3 (by decide);have d8:=c2 0 (by decide);have d9:=c2 1 (by decide);have E:=c2 2 (by decide);have db:=c2 3 (by decide);have y:=c3 0 (by decide);have dd:=c3 1 (by decide);have de:=c3 2 (by decide);have s:=c3 3 (by decide);have F:=c 0 (by decide);have u:=c 1 (by decide);have Y:=c 2 (by decide);have B:=c 3 (by decide);have Z:=c 4 (by decide);have w:=c 5 (by decide);have z:=c 6 (by decide);have R:=c 7 (by decide);have b8:=c 8 (by decide);have O:=c 9 (by decide);have L:=c 10 (by decide);have A:=c 11 (by decide);have K:=c 12 (by decide);have P:=c 13 (by decide);have N:=c 14 (by decide);have V:=c 15 (by decide);simp only [AJ,Ai,Nat.reduceAdd,AF,AM] at*;have m:∀j,j<16->j=0\/j=1\/j=2\/j=3\/j=4\/j=5\/j=6\/j=7\/j=8\/j=9\/j=10\/j=11\/j=12\/j=13\/j=14\/j=15:=by omega
 intro j f;rcases m j f with rfl|rfl|rfl|rfl|rfl|rfl|rfl|rfl|rfl|rfl|rfl|rfl|rfl|rfl|rfl|rfl;all_goals
  simp only [nextK,q3S,xorL,List.zipWith_cons_cons,List.zipWith_nil_left,Az,Ar,AF,AM,q6G,AJ,Q,G,q,t,d4,X,J,H,d8,d9,E,db,y,dd,de,s,F,u,Y,B,Z,w,z,R,b8,O,L,A,K,P,N,V]
theorem j0J(l:List Nat)(j:Nat):(obN l).getD j 0=UInt8.ofNat (l.getD j 0):=by unfold obN;rw [Ad,Ad,AP];cases l[j]?<;>rfl
def j5c{r:Nat}{k:List Nat}(c:okK key r k)(f:l.length=16):addS (obN l) (wordsS key) r=obN (xorL l k):=by rw [<-j5I f c.1];unfold addS xorS fS;apply Bn;intro i e;rw [BQ] at e;rw [c.2 i e,j0J k]
def j5i{key:List UInt8}(c:key.length=16):∀ (n r p:Nat) (k:List Nat),r+n<=10->okK key r k->facS key (4*r+4)=UInt8.ofNat p->(rkyN sTabN n p k).length=n+1/\∀i,i<=n->okK key (r+i) ((rkyN sTabN n p k).getD i [])
 |0,r,p,k,hr,ho,hf=>⟨rfl,λi m=>by
  have:i=0:=by omega
  subst this;exact ho⟩
 |n+1,r,p,k,hr,ho,hf=>by
  obtain ⟨h,e⟩:=j9b c (by omega) ho hf;obtain ⟨j,f⟩:=j5i c n (r+1) (x2N p) _ (by omega) h e;refine ⟨by rw [rkyN,As,j],λi m=> ?_⟩;cases i with
  |zero=>exact ho
  |succ i=>have:=f i (by omega);rw [show r+1+i=r+ (i+1) by omega] at this;exact this
def rdN(tb:Nat):List (List Nat)->List Nat->List Nat
 | [],l=>l
 |k :: ks,l=>rdN tb ks (xorL (if ks.isEmpty then shN tb l else mcN (shN tb l)) k)
def rdC{α:Type}(tb:Nat):List (List Nat)->List Nat->(List Nat->α)->α
 | [],l,f=>f l
 |k :: ks,l,f=>frcL (shN tb l) λs=>frcL (if ks.isEmpty then s else mcN s) λm=>frcL (xorL m k) λl'=>rdC tb ks l' f
theorem j5f{α:Type}(e:Nat):∀ (c:List (List Nat)) (l:List Nat) (f:List Nat->α),rdC e c l f=f (rdN e c l)
 | [],_,_=>rfl
 |k :: c,l,f=>by rw [rdC,q3S,q3S,q3S,j5f e c];rfl
def j9E{key b:List UInt8}:∀ (c:List (List Nat)) (r:Nat) (l:List Nat),(∀i,i<c.length->okK key (r+1+i) (c.getD i []))->r+1+c.length=11->l.length=16->encA (wordsS key) b r=obN l->encS (wordsS key) b=obN (rdN sTabN c l)/\(rdN sTabN c l).length=16
 | [],r,l,_,hr,hl,he=>by
  have:r=10:=by simp at hr;omega
  subst this;exact ⟨he,hl⟩
 |k :: c,r,l,ho,hr,hl,he=>by
  have f:okK key (r+1) k:=ho 0 (by simp);have e:=j7a hl sTabN;have h:(if c.isEmpty then shN sTabN l else mcN (shN sTabN l)).length=16:=by
   split
   . exact e
   exact j8y e
  have j:encA (wordsS key) b (r+1)=obN (xorL (if c.isEmpty then shN sTabN l else mcN (shN sTabN l)) k):=by
   rw [encA,he,rndE,<-j5c f h,k1G hl,k1B e];congr 1;cases c with
   |nil=>rw [if_neg (by simp at hr;omega)];rfl
   |cons k' c=>rw [if_pos (by simp at hr;omega)];rfl
  refine j9E c (r+1) _ (λi hi=> ?_) (by simp at hr;omega) (z1q h f.1) j;have:=ho (i+1) (by simp;omega);rw [show r+1+ (i+1)=r+1+1+i by omega] at this;exact this
def enN(tb:Nat)(ks:List (List Nat))(b:List Nat):List Nat:=match ks with
 | []=>b
 |k :: ks=>rdN tb ks (xorL b k)
def enC(tb:Nat)(ks:List (List Nat))(b:List Nat)(f:List Nat->α):α:=match ks with
 | []=>f b
 |k :: ks=>frcL (xorL b k) λl=>rdC tb ks l f
theorem k0O(e:Nat)(c:List (List Nat))(b:List Nat)(f:List Nat->α):enC e c b f=f (enN e c b):=by
 cases c with
 |nil=>rfl
 |cons k c=>rw [enC,q3S,j5f];rfl
def okKs(key:List UInt8)(ks:List (List Nat)):Prop:=ks.length=11/\∀i,i<=10->okK key i (ks.getD i [])
theorem k1Q{c:List (List Nat)}(m:okKs key c){b:List Nat}(j:b.length=16):encS (wordsS key) (obN b)=obN (enN sTabN c b)/\(enN sTabN c b).length=16:=by
 obtain ⟨f,e⟩:=m;match c,f,e with
 |k :: c,f,e=>
  have h:okK key 0 k:=e 0 (by omega);refine j9E c 0 _ (λi hi=> ?_) (by simp at f;omega) (z1q j h.1) ?_
  . have:=e (i+1) (by simp at f;omega);rw [show i+1=0+1+i by omega] at this;rw [show 0+1+i=i+1 by omega] at*;exact this
  rw [encA,j5c h j]
def j8G(c:key.length=16):okKs key (rkyN sTabN 10 1 (tbN key)):=by
 have m:okK key 0 (tbN key):=by refine ⟨by unfold tbN;rw [A0,c],λj e=> ?_⟩;rw [show 16*0+j=j by omega,z2Q key c e,<-j0J,j2Q]
 obtain ⟨h,f⟩:=j5i c 10 0 1 _ (by omega) m (z4p key (by omega));exact ⟨h,λi n=>by have:=f i n;rw [Ai] at this;exact this⟩
def cbN(tb:Nat)(ks:List (List Nat))(iv p:List Nat):Nat->List Nat×List Nat
 |0=>(iv,[])
 |n+1=>(enN tb ks (xorL ((p.take (16*n+16)).drop (16*n)) (cbN tb ks iv p n).1),(cbN tb ks iv p n).2++enN tb ks (xorL ((p.take (16*n+16)).drop (16*n)) (cbN tb ks iv p n).1))
def cbC{α:Type}(tb:Nat)(ks:List (List Nat))(iv p:List Nat):Nat->(List Nat->List Nat->α)->α
 |0,f=>f iv []
 |n+1,f=>cbC tb ks iv p n λv out=>frcL (xorL ((p.take (16*n+16)).drop (16*n)) v) λx=>enC tb ks x λc=>f c (out++c)
theorem z9Y{α:Type}(c:Nat)(e:List (List Nat))(iv p:List Nat):∀ (n:Nat) (f:List Nat->List Nat->α),cbC c e iv p n f=f (cbN c e iv p n).1 (cbN c e iv p n).2
 |0,_=>rfl
 |n+1,f=>by rw [cbC,z9Y c e iv p n,q3S,k0O];rfl
def j9I{key:List UInt8}{c:List (List Nat)}(f:okKs key c){iv p:List Nat}(o:iv.length=16):∀n,16*n<=p.length->chA (wordsS key) (obN iv) (obN p) n=(obN (cbN sTabN c iv p n).1,obN (cbN sTabN c iv p n).2)/\(cbN sTabN c iv p n).1.length=16
 |0,_=>⟨rfl,o⟩
 |n+1,h=>by
  obtain ⟨t,j⟩:=j9I (p:=p) f o n (by omega);have m:((p.take (16*n+16)).drop (16*n)).length=16:=by rw [Ag,Ah];omega
  have e:((obN p).take (16*n+16)).drop (16*n)=obN ((p.take (16*n+16)).drop (16*n)):=by unfold obN;rw [List.map_drop,List.map_take]
  obtain ⟨s,q⟩:=k1Q f (z1q m j);refine ⟨?_,q⟩;rw [chA,t,e,j5I m j,s,cbN];simp only [obN,BF]
def ctsC(key iv p:List UInt8)(f:List Nat->α):α:=forceN sTabN λtb=>rkyC tb 10 1 (tbN key) λks=>cbC tb ks (tbN iv) (tbN p) (p.length / 16) λ_ out=>f out
def j3S{iv p:List UInt8}(e:key.length=16)(c:iv.length=16):chainS key iv p=ctsC key iv p obN:=by unfold ctsC chainS;rw [q1a,z3I,z9Y];have:=(j9I (j8G e) (iv:=tbN iv) (p:=tbN p) (by unfold tbN;rw [A0,c]) (p.length / 16) (by unfold tbN;rw [A0];omega)).1;rw [j2Q,j2Q] at this;rw [this]
def k1m{iv p c:List UInt8}(j:key.length=16)(m:iv.length=16)(f:c.length≠16)(h:ctsC key iv (zpL p (zpN p.length)) (λl=>l==tbN c)=true):ctsE key iv p=(exchS c).take p.length:=by
 have e:chainS key iv (zpL p (zpN p.length))=c:=by rw [j3S j m];unfold ctsC at h⊢;rw [q1a,z3I,z9Y] at h⊢;rw [beq_iff_eq] at h;rw [h,j2Q]
 unfold ctsE;rw [e];simp only;rw [if_neg f]
def hmF(k b:List UInt8):List UInt8:=shaF (hkS k 92++shaF (hkS k 54++b))
def z9e(k b:List UInt8):hmS k b=hmF k b:=by unfold hmS hmF;rw [j1D,j1D]
theorem dk16{p:Int}(u c:Nat)(e:b.length=16):dkS (p,v,b) u c=(hmF b (four 1++(four u++ [UInt8.ofNat c])++ [0]++ []++four 128)).take 16:=by rw [<-z9e];show kdfS b (four u++ [UInt8.ofNat c]) [] b.length=_;rw [e];show (kacc b (four u++ [UInt8.ofNat c]) [] 16 1).take 16=_;have h:kacc b (four u++ [UInt8.ofNat c]) [] 16 1=kblk b (four u++ [UInt8.ofNat c]) [] 16 1:=Ar _;rw [h];rfl
def k16:List UInt8:=List.replicate 16 1
def cf3:List UInt8:=List.replicate 16 3
def a17:Aut:=(([⟨#[97]⟩],⟨#[82]⟩),[],10,7,(0,0,[]),1,[])
def pln17:List UInt8:=[98,43,48,41,160,3,2,1,5,161,14,48,12,160,5,48,3,27,1,97,161,3,27,1,82,163,3,2,1,7,164,8,24,6,0,0,0,0,0,10,166,3,2,1,1]
def e11:List UInt8:=[64,35,45,162,19,223,77,27,164,20,92,171,251,171,201,40]
def m11:List UInt8:=[252,150,229,143,30,22,150,125,46,214,179,59,220,93,126,178]
def m7:List UInt8:=[163,88,142,153,58,251,89,39,170,41,2,52,88,169,189,68]
def ch17:List UInt8:=[169,231,95,161,140,145,223,185,98,82,68,151,127,216,54,163,81,91,126,12,35,152,243,230,99,86,113,38,153,97,12,255,169,166,11,221,12,170,13,130,75,69,82,57,97,48,66,23,205,217,13,81,12,102,69,189,230,17,214,184,251,34,214,24]
def ct17:List UInt8:=[169,231,95,161,140,145,223,185,98,82,68,151,127,216,54,163,81,91,126,12,35,152,243,230,99,86,113,38,153,97,12,255,205,217,13,81,12,102,69,189,230,17,214,184,251,34,214,24,169,166,11,221,12,170,13,130,75,69,82,57,97]
def tg11:List UInt8:=[144,202,138,216,107,183,139,144,159,96,191,248,127,199,193,157]
def tg7:List UInt8:=[185,105,209,48,55,251,165,186,123,19,51,32,233,167,129,41]
def q7L:autS a17=pln17:=by kernel_rfl
def va17:vAut a17=true:=by kernel_rfl
def rd17:autD pln17=some a17:=by kernel_rfl
theorem k1a:dkS (1,0,k16) 11 170=e11:=by rw [dk16 11 170 rfl];kernel_rfl
theorem k0C:dkS (1,0,k16) 11 85=m11:=by rw [dk16 11 85 rfl];kernel_rfl
theorem k1K:dkS (1,0,k16) 7 85=m7:=by rw [dk16 7 85 rfl];kernel_rfl
def j6e:(hmS m11 (z16++ct17)).take 16=tg11:=by rw [z9e];kernel_rfl
def j9u:(hmS m7 (z16++ct17)).take 16=tg7:=by rw [z9e];kernel_rfl
def j8g:ctsE e11 z16 (cf3++pln17)=ct17:=by rw [k1m (c:=ch17) rfl rfl (by decide) (by kernel_rfl)];kernel_rfl
theorem se17:seS (1,0,k16) 11 cf3 pln17=ct17++tg11:=by unfold seS ciS tg9S;rw [if_pos rfl,if_pos rfl,k1a,k0C,j8g,j6e]
theorem opx17:opS (1,0,k16) 7 1 0 (ct17++tg11)=([],10):=by
 have e:(ct17++tg11).take ((ct17++tg11).length-k16.length)=ct17:=by kernel_rfl
 have c:(ct17++tg11).drop ((ct17++tg11).length-k16.length)=tg11:=by kernel_rfl
 unfold opS;rw [if_pos (by kernel_rfl),if_pos (by decide)];dsimp only;rw [if_neg (by decide),if_neg (by decide),e,c];unfold tg9S;rw [if_pos rfl,k1K,j9u,if_neg (by decide)]
set_option maxHeartbeats 4000000
def z2t(x:Int):UInt8.ofNat (IntKind.u8.wrap (x.tmod 256)).toNat=byteOf x:=by
 unfold byteOf;rw [u8w,u8w];have h:x.tmod 256%256=x%256:=by rw [Int.tmod_def];omega
 rw [h]
def k1N(v:Int)(n:Nat)(hn:n<=7):PC Tryz.prog 124 [rI v,rI n] (.isl .u8 (numS v n)):=by
 have hl:(numS v n).length=n:=by simp [numS]
 have j:IntKind.i64.wrap ((n:Int) -1)=(n:Int) -1:=wrapi (by omega);refine q0f rfl rfl ?_;refine ry1 fi124 j ?_;refine q2C 5 .u8 (λk=>(numS v n).take k) (λk=>[(6,rI ((n:Int) -1-k))]) n (λ_=>True) rfl (by simp) (by simp) rfl (λi=>rfl) ?_ λk hk _=> ?_
 . with_reducible refine sxE ?_
   simp
 have hln:((numS v n).take k).length=k:=by simp [numS];omega
 have h:IntKind.i64.wrap (8* ((n:Int) -1-k))=8* ((n:Int) -1-k):=wrapi (by omega);have o:IntKind.i64.wrap ((n:Int) -1-k-1)=(n:Int) -1- ((k+1:Nat):Int):=by rw [wrapi (by omega)];omega
 refine gy2 h o ?_;refine ⟨λhlt=> ?_,λhge=> ?_⟩
 . have c:k<n:=by omega
   have e:=z9E (v:=v) c;have m:(8* ((n:Int) -1-k)).toNat=8* (n-1-k):=by omega
   have f:UInt8.ofNat (IntKind.u8.wrap ((v.fdiv (2^ min (8* (n-1-k)) 64)).tmod 256)).toNat=byteAt v (n-1-k):=z2t _;rw [m,f];refine ⟨by omega,by decide,by rw [<-f];exact q0V _,⟨by omega,by omega⟩,q1F [_,_] [] c trivial (by rw [e];rfl) ?_⟩;simp (maxSteps:=3000000) only [e,Aa,go_sem,↓zA,↓reduceIte,↓reduceDIte] <;>try simp only [zB]
 obtain rfl:k=n:=by omega
 refine ⟨⟨Ae _,by omega⟩,?_⟩;rw [Ab (by omega),Ab (by omega)]
def timR(t:Int):List UInt8:=elemS 24 [numS t 6]
theorem j7i(t:Int):PC Tryz.prog 59 [rI t] (.isl .u8 (timR t)):=by refine q0f rfl rfl ?_;refine rQ fi59 ?_;refine cQ (k1N t 6 (by decide)) ?_;refine cQ (q9x 24 24 (by decide) _ (by simp [numS])) ?_;rfl
def j7T{t:Int}(h:0<=t/\t<=1099511627776):timR t=timeS t:=by unfold timeS timR;rw [if_pos h]
def z6d(t:Int):(timR t).length<=11:=by unfold timR;rw [q0B (by rw [q0G];decide),q0I,q0G];decide
def negB(v:Int):List UInt8:=if 128<=(byteOf v).toNat then [0,byteOf v] else [byteOf v]
def intR(v:Int):List UInt8:=if 0<=v/\v<=4611686018427387904 then intS v else if v<0 then elemS 2 [negB v] else elemS 2 [numS v 8]
def q5l(h:0<=v/\v<=4611686018427387904):intR v=intS v:=if_pos h
def q1V(v:Int):(intR v).length<=14:=by
 unfold intR;split
 . exact q1h v
 have c:=q0n 2 [negB v];have e:=q0n 2 [numS v 8];simp only [Al,Aq,Ac,q0G] at c e;have h3:(negB v).length<=2:=by unfold negB;split<;>simp
 split<;>omega
def j9H(v:Int)(j:v<0)(h1: -9223372036854775808<=v):PC Tryz.prog 55 [rI v] (.isl .u8 (intR v)):=by
 have f:intR v=elemS 2 [negB v]:=by unfold intR;rw [if_neg (by omega),if_pos j]
 obtain ⟨n,m⟩:∃n:Nat,v= -(n:Int):=⟨(-v).toNat,by omega⟩
 have ht:v.tdiv 256= -((n / 256:Nat):Int):=by rw [m,Int.neg_tdiv,show (256:Int)=((256:Nat):Int) from rfl,z4j]
 have hd:v.tdiv 256<=0:=by omega
 have hd1: -9223372036854775808<=v.tdiv 256:=by omega
 have e:IntKind.i64.wrap (v.tdiv 256)=v.tdiv 256:=wrapi (by omega);rw [f];refine q0f rfl rfl ?_;refine ry1 fi55 e ?_;refine ⟨by decide,q0V _,by decide,?_⟩;rw [z2t];refine q0m (ι:=Unit) (λ_=>[(0,rI (v.tdiv 256)),(3,.bld 0 .u8 1)]) (λ_=>[.row .u8 [byteOf v]]) (λ_=>0) (λ_=>True) () trivial rfl ?_ ?_
 . with_reducible refine sxE ?_;trivial
 rintro ⟨⟩ _;refine gQ ?_;refine ⟨λh=>absurd h (by omega),λ_=> ?_⟩;unfold negB;refine ⟨λc=>⟨rfl,?_⟩,λc=> ?_⟩
 . rw [if_pos (by omega)];refine q0u 2 ?_;with_reducible refine sxE ?_
   refine cQ (q9x 2 2 (by decide) _ (by simp)) ?_;rfl
 rw [if_neg (by omega)];refine q0u 0 ?_;with_reducible refine sxE ?_
 refine cQ (q9x 2 2 (by decide) _ (by simp)) ?_;trivial
def k0S(v:Int)(u:4611686018427387904<v)(A:v<=9223372036854775807):PC Tryz.prog 55 [rI v] (.isl .u8 (intR v)):=by
 have t:intR v=elemS 2 [numS v 8]:=by unfold intR;rw [if_neg (by omega),if_neg (by omega)]
 rw [t];clear t;obtain ⟨n,rfl⟩:∃n:Nat,v=n:=⟨v.toNat,by omega⟩
 refine q0f rfl rfl ?_;have w:IntKind.i64.wrap ((n:Int).tdiv 256)=(qN n 1:Int):=by rw [show (256:Int)=((256:Nat):Int) from rfl,z4j,wrapi (by omega)];rfl
 have h7:64<=qN n 7/\qN n 7<=127:=by unfold qN;constructor<;>omega
 have y:qN n 8=0:=by unfold qN;omega
 refine ry1 fi55 w ?_;refine ⟨by decide,q0V _,by decide,?_⟩;rw [z9y];have u:[byteOf (n:Int)]=numS n 1:=by simp [numS,byteAt]
 rw [u];refine q0m (ι:=Nat×List SObj) (λx=>[(0,rI (qN n (x.1+1):Int)),(3,.bld x.2.length .u8 (x.1+1))]) (λx=>x.2++ [.row .u8 (numS n (x.1+1))]) (λx=>8-x.1) (λx=>x.1<=7) (0,[]) (by omega) rfl ?_ ?_
 . with_reducible refine sxE ?_;trivial
 rintro ⟨j,G⟩ o;dsimp only at o;have e:(numS (n:Int) (j+1)).length=j+1:=by simp [numS]
 have z:IntKind.i64.wrap ((qN n (j+1):Int).tdiv 256)=(qN n (j+1+1):Int):=by have A:=j9L n (j+1+1);rw [show (256:Int)=((256:Nat):Int) from rfl,z4j,<-z0N,wrapi (by omega)]
 have q:List.take (j+1) (numS (n:Int) (j+1))=numS n (j+1):=Ab (by omega);refine uQ 600 _ ?_;simp (maxSteps:=3000000) only [z,e,q,List.append_assoc,getA,getA0,setA,setA0,Aa,Ax,go_sem,↓zA,↓reduceIte,↓reduceDIte] <;>try simp only [zB]
 refine ⟨λhp=> ?_,λhz=> ?_⟩
 . have s:j+1<=7:=by
    rcases AN j 7 with h|h
    . omega
    exfalso;obtain rfl:j=7:=by omega
    have:qN n (7+1)=0:=y;omega
   refine ⟨by decide,q0V _,⟨Nat.le_refl _,by omega,by omega⟩,by decide,(j+1,G++ [.row .u8 (numS n (j+1)),.dead]),s,by dsimp only;omega,?_,?_⟩
   . dsimp only;rw [q8B (by omega),<-q1v n (j+1) (by omega),<-q2k,List.append_assoc];rfl
   with_reducible refine sxaE ?_
   exact congrArg (SV.bld (G.length+2) .u8) (by omega)
 have hz0:qN n (j+1)=0:=by omega
 have o:j=7:=by
  rcases AN j 7 with h|h
  . exfalso;have:=j0E n (show j+1<=7 by omega);omega
  omega
 subst o;have hln8:(numS (n:Int) 8).length=8:=e;have f:(numS (n:Int) 8).getD 0 Ty.u8.dflt=byteOf (qN n 7:Int):=by rw [q2k,AF,q1v n 7 (by omega)]
 have m:((byteOf (qN n 7:Int)).toNat:Int)=(qN n 7:Int):=by unfold byteOf;rw [q0V,u8w];omega
 rw [f,m];refine ⟨by omega,by omega,λc=>absurd c (by omega),λc=> ?_⟩;refine q0u G.length ?_;with_reducible refine sxaE ?_
 refine ⟨by omega,by omega,?_⟩;rw [Ab (by omega)];refine cQ (q9x 2 2 (by decide) _ (by omega)) ?_;trivial
def z0c(v:Int)(h: -9223372036854775808<=v/\v<=9223372036854775807):PC Tryz.prog 55 [rI v] (.isl .u8 (intR v)):=by
 by_cases e:v<0
 . exact j9H v e h.1
 by_cases c:v<=4611686018427387904
 . rw [q5l ⟨by omega,c⟩];exact j9w v ⟨by omega,c⟩
 exact k0S v (by omega) h.2
theorem k0P(n:Int)(hn:0<=n/\n<=100)(b:List UInt8)(e:b.length<=1048576):PC Tryz.prog 52 [rI n,.isl .u8 b] (.isl .u8 (elemS (byteOf (96+n)) [b])):=by have c:IntKind.i64.wrap (96+n)=96+n:=wrapi (by omega);refine q0f rfl rfl ?_;refine ry1 fi52 c ?_;refine cQ (q9x (byteOf (96+n)) (96+n) rfl b e) ?_;trivial
def z5z{l:List ByteArray}(hl:l.length<=64)(h:∀x∈l,x.size<=1000):(strsN l k).flatten.length<=64320:=by
 have h1:=z1A (B:=1005) (strsN l k) (λx c=>by
  unfold strsN at c;rw [Bv] at c;obtain ⟨y,f,rfl⟩:=c;have e:=h y (B9 f);have j:=q0n 27 [y.data.toList];have h4:y.data.toList.length=y.size:=by simp
  simp only [Al,Aq,Ac] at j
  omega)
 have e:(strsN l k).length<=64:=by unfold strsN;simp;omega
 have:1005* (strsN l k).length<=1005*64:=Cf _ e;omega
def shP(p:Prin):Prop:=p.1.length<=64/\(∀x∈p.1,x.size<=1000)/\p.2.size<=1000
def z6I{p:Prin}(h:shP p):(prinS p).length<=65400:=by
 obtain ⟨l,r⟩:=p;obtain ⟨f,e,n⟩:=h;dsimp only at f e n;have c:prinS (l,r)=elemS 48 [wrapS 160 0 (elemS 48 (strsN l l.length)),wrapS 160 1 (elemS 27 [r.data.toList])]:=rfl;have hf:=z5z (k:=l.length) f e;have g1:=q0n 48 (strsN l l.length);have m:=q0n 27 [r.data.toList];have g3:r.data.toList.length=r.size:=by simp
 simp only [Al,Aq,Ac] at m;have g4:=q0o 160 0 (elemS 48 (strsN l l.length));have g5:=q0o 160 1 (elemS 27 [r.data.toList]);have j:=q0n 48 [wrapS 160 0 (elemS 48 (strsN l l.length)),wrapS 160 1 (elemS 27 [r.data.toList])];simp only [Al,Aq,Ac,Aa] at j;rw [c];omega
theorem j7p(p:Prin)(h:shP p):PC Tryz.prog 56 [.agg (PrinT.cells p)] (.isl .u8 (prinS p)):=by
 obtain ⟨l,r⟩:=p;obtain ⟨n,f,q⟩:=h;dsimp only at n f q;have j:prinS (l,r)=elemS 48 [wrapS 160 0 (elemS 48 (strsN l l.length)),wrapS 160 1 (elemS 27 [r.data.toList])]:=rfl;generalize prinS (l,r)=ps at*;refine q0f rfl rfl ?_;refine rQ fi56 ?_;refine q2C 3 (.slice .u8) (strsN l) (λi=>[(4,rI i)]) l.length (λ_=>True) rfl (by simp) (by simp [strsN]) rfl (λi=>rfl) ?_ λi s _=> ?_
 . with_reducible refine sxE ?_;trivial
 have m:=wsx i (by omega);have hln:=z3p s;by_cases c:i<l.length
 . have e:=q9S c;have hsz:=f _ (q1z (d:=Ty.str.dflt) c);refine gQ ?_;refine ⟨λ_=>⟨⟨by omega,c⟩,q0a (j5F _ (by omega)) ?_⟩,λh=>absurd c h⟩;refine gQ ?_;refine ⟨⟨by omega,by omega⟩,q1F [_,_] [] c trivial (by rw [e];rfl) ?_⟩;with_reducible refine sx3 m e ?_;trivial
 obtain rfl:i=l.length:=by omega
 have hf:=z5z (k:=l.length) n f;have g1:=q0n 48 (strsN l l.length);have o:=q0n 27 [r.data.toList];have g3:r.data.toList.length=r.size:=by simp
 simp only [Al,Aq,Ac] at o;have g4:=q0o 160 0 (elemS 48 (strsN l l.length));have g5:=q0o 160 1 (elemS 27 [r.data.toList]);refine q1k 1 rfl rfl (by omega) ?_ ?_ ?_
 . with_reducible refine sxE ?_;trivial
 . with_reducible refine sxE ?_
   exact Ae _
 with_reducible refine sxE ?_
 rw [Ab (Ae _)];refine gQ ?_;refine ⟨λh=>absurd h c,λ_=>q0d (q9X _ (by omega) (by omega)) ?_⟩;refine gQ ?_;refine cR (q2S 0 (by decide) _ (by omega)) ?_;refine cR (j5F r (by omega)) ?_;refine cR (q2S 1 (by decide) _ (by omega)) ?_;refine q0Z 2 (by decide) ?_;with_reducible refine sxE ?_
 refine cR (q9X _ (by simp) (by simp only [Al,Aq,Ac,Aa];omega)) ?_;exact j.symm
def datR(d:Pre):List UInt8:=elemS 48 [wrapS 160 0 (intR d.1),wrapS 160 1 (elemS 4 [d.2])]
def j3p(d:Pre):(datR d).length<=d.2.length+45:=by have g1:=q1V d.1;have e:=q0n 4 [d.2];simp only [Al,Aq,Ac] at e;have g5:=q0o 160 0 (intR d.1);have g6:=q0o 160 1 (elemS 4 [d.2]);have c:=q0n 48 [wrapS 160 0 (intR d.1),wrapS 160 1 (elemS 4 [d.2])];simp only [Al,Aq,Ac,Aa] at c;unfold datR;omega
def shD(l:List Pre):Prop:=l.length<=32/\∀d∈l,(-9223372036854775808<=(d.1:Int)/\(d.1:Int)<=9223372036854775807)/\d.2.length<=16384
def dataR(l:List Pre):List UInt8:=elemS 48 (mapN (t:=PreT) datR l l.length)
variable {l:List Pre}
def z6G(h:shD l)(i:Nat):(mapN (t:=PreT) datR l i).flatten.length<=525728:=by
 have h1:=z1A (B:=16429) (mapN (t:=PreT) datR l i) (λx c=>by
  unfold mapN at c;rw [Bv] at c;obtain ⟨y,f,rfl⟩:=c;have e:=(h.2 y (B9 f)).2;have:=j3p y
  omega)
 have e:(mapN (t:=PreT) datR l i).length<=32:=by unfold mapN;simp;have:=h.1;omega
 have:16429* (mapN (t:=PreT) datR l i).length<=16429*32:=Cf _ e;omega
def z3g(h:shD l):(dataR l).length<=525740:=by have:=z6G h l.length;have:=q0n 48 (mapN (t:=PreT) datR l l.length);unfold dataR;omega
theorem j7b(l:List Pre)(h:shD l):PC Tryz.prog 61 [.isl PreT l] (.isl .u8 (dataR l)):=by
 have hl:=h.1;have hfl:=z6G h l.length;have m:dataR l=elemS 48 (mapN (t:=PreT) datR l l.length):=rfl;generalize dataR l=ps at*;refine q0f rfl rfl ?_;refine rQ fi61 ?_;refine q2C 3 (.slice .u8) (mapN (t:=PreT) datR l) (λi=>[(4,rI i)]) l.length (λ_=>True) rfl (by simp) (by simp [mapN]) rfl (λi=>rfl) ?_ λi o _=> ?_
 . with_reducible refine sxE ?_;trivial
 have j:=wsx i (by omega);have hln:=z5F (t:=PreT) (w:=datR) o;by_cases c:i<l.length
 . have e:=z3j (t:=PreT) (w:=datR) c;obtain ⟨n,z2⟩:=h.2 _ (q1z (d:=PreT.dflt) c);have f:datR (l.getD i PreT.dflt)=elemS 48 [wrapS 160 0 (intR (l.getD i PreT.dflt).1),wrapS 160 1 (elemS 4 [(l.getD i PreT.dflt).2])]:=rfl;have g1:=q1V (l.getD i PreT.dflt).1;have q:=q0n 4 [(l.getD i PreT.dflt).2];simp only [Al,Aq,Ac] at q;have g5:=q0o 160 0 (intR (l.getD i PreT.dflt).1);have g6:=q0o 160 1 (elemS 4 [(l.getD i PreT.dflt).2]);refine gQ ?_;refine ⟨λ_=>⟨⟨by omega,c⟩,⟨by omega,c⟩,?_⟩,λh=>absurd c h⟩;refine cR (z0c _ n) ?_;refine cR (q2S 0 (by decide) _ (by omega)) ?_;refine cR (j1w _ (by omega)) ?_;refine cR (q2S 1 (by decide) _ (by omega)) ?_;refine q0Z 1 (by decide) ?_;with_reducible refine sxE ?_
   refine cR (q9X _ (by simp) (by simp only [Al,Aq,Ac,Aa];omega)) ?_;refine ⟨⟨by omega,by omega⟩,q1F [_,_,_] [] c trivial (by rw [e,f];rfl) ?_⟩;with_reducible refine sx3 j e ?_;trivial
 obtain rfl:i=l.length:=by omega
 refine q1k 0 rfl rfl (by omega) ?_ ?_ ?_
 . with_reducible refine sxE ?_;trivial
 . with_reducible refine sxE ?_
   exact Ae _
 with_reducible refine sxE ?_
 rw [Ab (Ae _)];refine gQ ?_;refine ⟨λh=>absurd h c,λ_=>q0a (q9X _ (by omega) (by omega)) ?_⟩;refine gQ ?_;exact m.symm
theorem q2g(n:Int):PC Tryz.prog 13 [rI n] (rI n):=by refine q0q rfl rfl ?_;refine rQ fi13 ?_;trivial
def z6R(c:UInt8)(m:Int)(j:m=c.toNat)(n:Nat)(hn:n<=1048576):PC Tryz.prog 30 [.raw (.int .u8 m),rI n] (.isl .u8 (List.replicate n c)):=by
 subst j;refine q0f rfl rfl ?_;refine rQ fi30 ?_;refine q2C 5 .u8 (λi=>List.replicate i c) (λi=>[(6,rI i)]) n (λ_=>True) rfl (by simp) (by simp) rfl (λi=>rfl) ?_ λi hi _=> ?_
 . with_reducible refine sxE ?_;trivial
 have h:=wsx i (by omega);have e:List.replicate (i+1) c=List.replicate i c++ [c]:=CB;refine uQ 600 _ ?_;simp (maxSteps:=3000000) only [BT,go_sem,↓zA,↓reduceIte,↓reduceDIte] <;>try simp only [zB]
 refine ⟨λf=> ?_,λhge=> ?_⟩
 . refine ⟨j5e c,⟨by omega,by omega⟩,q1F [.dead,.row .u8 [c]] [] f trivial (by rw [e];simp) ?_⟩;simp (maxSteps:=3000000) only [h,e,Aa,BT,go_sem,↓zA,↓reduceIte,↓reduceDIte] <;>try simp only [zB]
 obtain rfl:i=n:=by omega
 refine ⟨⟨Ae _,by omega⟩,Ab (by simp)⟩
def p17(s:ByteArray):Prin:=([s],⟨#[82]⟩)
def q7I(s:ByteArray)(c:s.size<=140737488355328):PC Tryz.prog 29 [rS s] (.agg (PrinT.cells (p17 s))):=by
 refine q0f rfl rfl ?_;refine rQ fi29 ?_;simp (maxSteps:=3000000) only [p17,go_sem,↓zA,↓reduceIte,↓reduceDIte] <;>try simp only [zB]
 exact c
def s40(l:List ByteArray)(j:Nat):Bool:=decide (((l.getD j (Ty.dflt .str)).size:Int)<=40)
def shortB(p:Prin):Bool:=(decide ((p.1.length:Int)<=6) && decide ((p.2.size:Int)<=40)) && allN p.1.length (s40 p.1)
def z6j(p:Prin)(s:PrinT.ok p):PC Tryz.prog 22 [.agg (PrinT.cells p)] (rB (shortB p)):=by
 obtain ⟨l,r⟩:=p;have hl:l.length<=1125899906842624:=s.1.1;have o:shortB (l,r)=((decide ((l.length:Int)<=6) && decide ((r.size:Int)<=40)) && allN l.length (s40 l)):=rfl;refine q0q rfl rfl ?_;refine rQ fi22 ?_;refine q1q (λi=>[(3,.raw (.int .i64 ((i:Nat):Int)))]) (l.length) (λj=>(s40 l) j=true) (by first|decide|simp) (λi=>rfl) ?_ λi hi c=> ?_
 . (with_reducible refine sxE ?_<;>try exact True.intro)
   all_goals (try rfl)
 have n:=wsx i (by omega);refine gQ ?_;have f:i< (l.length)->(s40 l) i=false->allN (l.length) (s40 l)=false:=λe t=>q0w e t;have fin:¬i< (l.length)->allN (l.length) (s40 l)=true:=λh=>q0x λj hj=>c j (by omega);try dsimp only at f fin c
 refine ⟨λe=>⟨⟨by omega,e⟩,λh=> ?_,λh=> ?_⟩,λm=> ?_⟩
 . rw [o,f e (decide_eq_false (λq=>absurd h (CU.2 q))),CM]
 . refine ⟨e,q1p c (decide_eq_true (CU.1 h)),⟨[],rfl⟩,?_⟩;with_reducible refine sx1 n ?_;trivial
 rw [o,fin m,Ch];exact ⟨λh=>by rw [decide_eq_true h,BP],λh=>by rw [decide_eq_false h,CN]⟩
def j4v(l m:List Pre)(z:(Ty.slice PreT).ok l):PC Tryz.prog 89 [.isl PreT l,.isl PreT m] (rB (decide (l=m))):=by
 have hlen:l.length<=1125899906842624:=z.1;have key:=sameN l m PreT.dflt;refine q0q rfl rfl ?_;refine rQ fi89 ?_;refine ⟨λh=> ?_,λh=> ?_⟩
 . rw [decide_eq_false (λe=>h (by rw [e]))]
 have u:l.length=m.length:=by omega
 refine q1q (λi=>[(5,.raw (.int .i64 ((i:Nat):Int)))]) (l.length) (λj=>(eqAt l m PreT.dflt) j=true) (by first|decide|simp) (λi=>rfl) ?_ λi hi n=> ?_
 . (with_reducible refine sxE ?_<;>try exact True.intro)
   all_goals (try rfl)
 have y:=wsx i (by omega);refine gQ ?_;have q:i< (l.length)->(eqAt l m PreT.dflt) i=false->allN (l.length) (eqAt l m PreT.dflt)=false:=λc A=>q0w c A;have fin:¬i< (l.length)->allN (l.length) (eqAt l m PreT.dflt)=true:=λh=>q0x λj hj=>n j (by omega);try dsimp only at q fin n
 have o:eqAt l m PreT.dflt i=decide (l.getD i PreT.dflt=m.getD i PreT.dflt):=rfl;have f:i<l.length->l.getD i PreT.dflt≠m.getD i PreT.dflt->decide (l=m)=false:=λc w=>decide_eq_false (λe=>by have:=q c (o.trans (decide_eq_false w));rw [(key.1 e).2] at this;cases this);refine ⟨λc=>⟨⟨by omega,c⟩,⟨by omega,by omega⟩,λx=>⟨⟨by omega,c⟩,⟨by omega,by omega⟩,λs=> ?_,λs=>⟨c,q1p n ?_,⟨[],rfl⟩,?_⟩⟩,λx=> ?_⟩,λt=> ?_⟩
 . rw [f c (λe=>s (by rw [e]))]
 . rw [q3G] at s;exact o.trans (decide_eq_true (Prod.ext x s))
 . with_reducible refine sx1 y ?_;trivial
 . rw [f c (λe=>x (by rw [e]))]
 rw [decide_eq_true (key.2 ⟨u,fin t⟩)]
instance instAut1:DecidableEq (Int×List Pre):=instDecidableEqProd
instance instAut2:DecidableEq (Key×Int×List Pre):=instDecidableEqProd
instance instAut3:DecidableEq (Int×Key×Int×List Pre):=instDecidableEqProd
instance instAut4:DecidableEq (Int×Int×Key×Int×List Pre):=instDecidableEqProd
instance instAut5:DecidableEq (List UInt8×Int×Int×Key×Int×List Pre):=instDecidableEqProd
instance instAutD:DecidableEq Aut:=(instDecidableEqProd:DecidableEq (Prin×List UInt8×Int×Int×Key×Int×List Pre))
theorem q8C(a b:Aut)(e:AutT.ok a):PC Tryz.prog 17 [.agg (AutT.cells a),.agg (AutT.cells b)] (rB (decide (a=b))):=by
 have c1:=k1H a.1 b.1 e.1;have c2:=k1p a.2.2.2.2.1 b.2.2.2.2.1;have c3:=j4v a.2.2.2.2.2.2 b.2.2.2.2.2.2 e.2.2.2.2.2.2;obtain ⟨c,s,t,m,k,q,d⟩:=a;obtain ⟨c',s',t',m',k',q',d'⟩:=b;dsimp only at c1 c2 c3;refine q0q rfl rfl ?_;refine rQ fi17 ?_<;>try with_reducible exact True.intro
 repeat' (first
  | (refine q0a (c1) ?_;refine uQ 600 _ ?_;simp (maxSteps:=3000000) only [go_sem,↓zA,↓reduceIte,↓reduceDIte] <;>try simp only [zB])
  | (refine q0d (c1) ?_;refine uQ 600 _ ?_;simp (maxSteps:=3000000) only [go_sem,↓zA,↓reduceIte,↓reduceDIte] <;>try simp only [zB])
  | (refine q0i (c1) ?_;refine uQ 600 _ ?_;simp (maxSteps:=3000000) only [go_sem,↓zA,↓reduceIte,↓reduceDIte] <;>try simp only [zB])
  | (refine q0a (c2) ?_;refine uQ 600 _ ?_;simp (maxSteps:=3000000) only [go_sem,↓zA,↓reduceIte,↓reduceDIte] <;>try simp only [zB])
  | (refine q0d (c2) ?_;refine uQ 600 _ ?_;simp (maxSteps:=3000000) only [go_sem,↓zA,↓reduceIte,↓reduceDIte] <;>try simp only [zB])
  | (refine q0i (c2) ?_;refine uQ 600 _ ?_;simp (maxSteps:=3000000) only [go_sem,↓zA,↓reduceIte,↓reduceDIte] <;>try simp only [zB])
  | (refine q0a (c3) ?_;refine uQ 600 _ ?_;simp (maxSteps:=3000000) only [go_sem,↓zA,↓reduceIte,↓reduceDIte] <;>try simp only [zB])
  | (refine q0d (c3) ?_;refine uQ 600 _ ?_;simp (maxSteps:=3000000) only [go_sem,↓zA,↓reduceIte,↓reduceDIte] <;>try simp only [zB])
  | (refine q0i (c3) ?_;refine uQ 600 _ ?_;simp (maxSteps:=3000000) only [go_sem,↓zA,↓reduceIte,↓reduceDIte] <;>try simp only [zB])
  | (with_reducible refine And.intro ?_ ?_)
  | (with_reducible intro _))
 all_goals (simp_all [q3G])
set_option maxHeartbeats 40000000
def ordA(a b:Aut):Int:=if cmpI a.2.2.1 b.2.2.1=0 then cmpI a.2.2.2.1 b.2.2.2.1 else cmpI a.2.2.1 b.2.2.1
theorem k0I(a b:Aut)(o1 x:SObj):PCH Tryz.prog 97 [.agg (AutT.cells a),.agg (AutT.cells b),.csl 2 .u8 0 0 2] (rI (ordA a b)) [o1,x,.cells 122 [.fn 98 [] [],.fn 99 [] []]]:=by
 have c1:=z8F a;have c2:=j0j a;have c3:=z8F b;have y:=j0j b;have z:=j5g a.2.2.1 b.2.2.1;have C:=j5g a.2.2.2.1 b.2.2.2.1;unfold ordA;generalize cmpI a.2.2.1 b.2.2.1=D at*;generalize cmpI a.2.2.2.1 b.2.2.2.1=A at*;obtain ⟨n,s,t,m,k,q,d⟩:=a;obtain ⟨n',s',t',m',k',q',d'⟩:=b;dsimp only at*;refine j1W rfl ?_;refine rQ fi97 ?_;refine q1q (λi=>[(12,rI (i:Nat))]) 2 (λi=>(i=0->D=0)/\(i=1->A=0)) (by first|decide|simp) (λi=>rfl) ?_ λi hi c=> ?_
 . with_reducible refine sxE ?_;trivial
 have f:=wsx i (by omega);by_cases o:i=0
 . subst o;have e:((0:Nat):Int)=0:=rfl;have j:((0:Int) < ((2:Nat):Int))=True:=eq_true (by decide);refine gy2 e j ?_;refine cR c1 ?_;refine cR c3 ?_;refine cR z ?_;refine ⟨λh=>⟨by rw [if_neg h],[_,_],rfl⟩,λh=>⟨by decide,q1p c ⟨λ_=>h,λh=>absurd h (by decide)⟩,⟨[],rfl⟩,?_⟩⟩;with_reducible refine sx1 f ?_
   rfl
 have u:=(c 0 (by omega)).1 rfl;rw [if_pos u];by_cases B:i=1
 . subst B;have e:((1:Nat):Int)=1:=rfl;have j:((1:Int) < ((2:Nat):Int))=True:=eq_true (by decide);refine gy2 e j ?_;refine cR c2 ?_;refine cR y ?_;refine cR C ?_;refine ⟨λh=>⟨rfl,[_,_],rfl⟩,λh=>⟨by decide,q1p c ⟨λh=>absurd h (by decide),λ_=>h⟩,⟨[],rfl⟩,?_⟩⟩;with_reducible refine sx1 f ?_
   rfl
 obtain rfl:i=2:=by omega
 have w:=(c 1 (by omega)).2 rfl;rw [w];refine gQ ?_;exact ⟨λh=>absurd h (by decide),λ_=>⟨rfl,[_,_],rfl⟩⟩
def z7J(a b:Aut):PC Tryz.prog 25 [.agg (AutT.cells a),.agg (AutT.cells b)] (rI (ordA a b)):=by have h:=λo1 c=>k0I a b o1 c;obtain ⟨n,s,t,m,k,q,d⟩:=a;obtain ⟨n',s',t',m',k',q',d'⟩:=b;refine q0q rfl rfl ?_;refine rQ fi25 ?_;refine j2n (h _ _) ?_;refine gQ ?_;trivial
def prin17(s:ByteArray)(h:s.size<=1000):PrinT.ok (p17 s):=by refine ⟨⟨by show (1:Nat)<=_;decide,λx c=> ?_⟩,by show ByteArray.size ⟨#[82]⟩<=140737488355328;decide⟩;simp [p17] at c;subst c;show x.size<=_;omega
def oka17:AutT.ok a17:=⟨prin17 ⟨#[97]⟩ (by decide),⟨by decide,λ_ _=>trivial⟩,trivial,trivial,⟨trivial,trivial,⟨by decide,λ_ _=>trivial⟩⟩,trivial,⟨by decide,λx c=>by cases c⟩⟩
def okk17:KeyT.ok (1,0,k16):=⟨trivial,trivial,⟨by decide,λ_ _=>trivial⟩⟩
def uok11:uOk (1,0,k16) 11=true:=by kernel_rfl
theorem kenc:PC Tryz.prog 10 [.agg (AutT.cells a17)] (.tup [.isl .u8 pln17,rI 0]):=by have h:=q5V a17 oka17;rw [va17,if_pos rfl,if_pos rfl,q7L] at h;exact h
theorem kseal:PC Tryz.prog 18 [.agg (KeyT.cells (1,0,k16)),rI 11,.agg (AutT.cells a17),.isl .u8 cf3] (.tup [.agg [rI 1,rI 0,.isl .u8 (ct17++tg11)],rI 0]):=by
 have h:=z9K (1,0,k16) a17 oka17 11 cf3 1 0 (ct17++tg11) 0 λ_=>by have c:=j3g 0 k16 11 cf3 (autS a17) okk17 uok11 (by decide) (by rw [q7L];decide);rw [q7L,se17] at c;rw [q7L];exact c
 rw [va17,if_pos rfl,if_pos rfl] at h;exact h
def kopen:PC Tryz.prog 20 [.agg (KeyT.cells (1,0,k16)),rI 11,.agg [rI 1,rI 0,.isl .u8 (ct17++tg11)]] (.tup [.agg (AutT.cells a17),rI 0]):=by have c:=z5y 0 k16 11 1 0 (ct17++tg11) okk17 uok11 (by decide);have e:=j9U (1,0,k16) 11 cf3 pln17 uok11 (by decide) (by decide);rw [se17] at e;rw [e] at c;have f:=j1f (1,0,k16) 11 1 0 (ct17++tg11) pln17 (by decide) c;rw [rd17] at f;exact f
def kopex:PC Tryz.prog 20 [.agg (KeyT.cells (1,0,k16)),rI 7,.agg [rI 1,rI 0,.isl .u8 (ct17++tg11)]] (.tup [zAut,rI 10]):=by have c:=z5y 0 k16 7 1 0 (ct17++tg11) okk17 (by kernel_rfl) (by decide);rw [opx17] at c;exact j9k (1,0,k16) 7 1 0 (ct17++tg11) 10 (by decide) [] c
def rdx17:autD [98,0]=none:=by kernel_rfl
def kdec:PC Tryz.prog 15 [.isl .u8 [98,0]] (.tup [zAut,rI 6]):=by have h:=q5x [98,0] (by decide);rw [rdx17] at h;exact h
def a18:Aut:=(p17 ⟨#[97]⟩,[],10,8,nKey,1,[])
def kcmp:PC Tryz.prog 25 [.agg (AutT.cells a17),.agg (AutT.cells a18)] (rI (-1)):=by
 have h:=z7J a17 a18;have e:ordA a17 a18= -1:=by kernel_rfl
 rw [e] at h;exact h
def kchk(s:ByteArray)(e:s.size<=1000)(c:Int)(n:Int)(h:chkS a17 (p17 s) c 5=n):PC Tryz.prog 23 [.agg (AutT.cells a17),.agg (PrinT.cells (p17 s)),rI c,rI 5] (rI n):=by rw [<-h];exact z1b a17 oka17 (p17 s) (prin17 s e) c 5
def chk0:chkS a17 (p17 ⟨#[97]⟩) 15 5=0:=by kernel_rfl
def chk1:chkS a17 (p17 ⟨#[97]⟩) 16 5=181:=by kernel_rfl
def chk2:chkS a17 (p17 ⟨#[98]⟩) 15 5=180:=by kernel_rfl
abbrev w17(m:Int):SV:=.agg [.isl .str [⟨#[97]⟩],.raw (.string ⟨#[82]⟩),.raw (.slice none 0 0),.raw (.int .i64 10),.raw (.int .i64 m),.raw (.int .i64 0),.raw (.int .i64 0),.raw (.slice none 0 0),.raw (.int .i64 1),.raw (.slice none 0 0)]
abbrev kk17:SV:=.agg [.raw (.int .i64 1),.raw (.int .i64 0),.isl .u8 [1,1,1,1,1,1,1,1,1,1,1,1,1,1,1,1]]
abbrev v17:SV:=.agg [.isl .str [⟨#[97]⟩],.raw (.string ⟨#[82]⟩),.isl .u8 [],.raw (.int .i64 10),.raw (.int .i64 7),.raw (.int .i64 0),.raw (.int .i64 0),.isl .u8 [],.raw (.int .i64 1),.isl PreT []]
abbrev s17:SV:=.agg [.raw (.int .i64 1),.raw (.int .i64 0),.isl .u8 (ct17++tg11)]
def kenc1:PC Tryz.prog 10 [w17 7] (.tup [.isl .u8 pln17,rI 0]):=by refine kenc.arg ?_;simp (maxSteps:=3000000) only [a17,go_sem,↓zA,↓reduceIte,↓reduceDIte] <;>try simp only [zB]
def kseal1:PC Tryz.prog 18 [kk17,rI 11,w17 7,.isl .u8 [3,3,3,3,3,3,3,3,3,3,3,3,3,3,3,3]] (.tup [s17,rI 0]):=by refine kseal.arg ?_;simp (maxSteps:=3000000) only [a17,k16,cf3,go_sem,↓zA,↓reduceIte,↓reduceDIte] <;>try simp only [zB]
def kopen1:PC Tryz.prog 20 [kk17,rI 11,s17] (.tup [v17,rI 0]):=kopen
def kopex1:PC Tryz.prog 20 [kk17,rI 7,s17] (.tup [zAut,rI 10]):=kopex
def ksame1:PC Tryz.prog 17 [w17 7,v17] (rB true):=by have h:=q8C a17 a17 oka17;rw [decide_eq_true rfl] at h;refine h.arg ?_;simp (maxSteps:=3000000) only [a17,go_sem,↓zA,↓reduceIte,↓reduceDIte] <;>try simp only [zB]
def kcmp1:PC Tryz.prog 25 [w17 7,w17 8] (rI (-1)):=by refine kcmp.arg ?_;simp (maxSteps:=3000000) only [a17,a18,nKey,p17,go_sem,↓zA,↓reduceIte,↓reduceDIte] <;>try simp only [zB]
def kchk1(s:ByteArray)(e:s.size<=1000)(c:Int)(n:Int)(h:chkS a17 (p17 s) c 5=n):PC Tryz.prog 23 [w17 7,.agg [.isl .str [s],.raw (.string ⟨#[82]⟩)],rI c,rI 5] (rI n):=by refine (kchk s e c n h).arg ?_;simp (maxSteps:=3000000) only [a17,p17,go_sem,↓zA,↓reduceIte,↓reduceDIte] <;>try simp only [zB]
def q2T:PC Tryz.prog 9 [] (rB true):=by
 have c:pln17.length=45:=rfl;have h0:pln17.getD 0 0=98:=rfl;refine q0f rfl rfl ?_;refine rQ fi9 ?_;refine q0a (q7I ⟨#[97]⟩ (by decide)) ?_;refine uQ 600 _ ?_;simp (maxSteps:=3000000) only [p17,go_sem,↓zA,↓reduceIte,↓reduceDIte] <;>try simp only [zB]
 refine cQ (z6R 1 1 rfl 16 (by decide)) ?_;refine cQ kenc1 ?_;refine q0i (z6R 3 3 rfl 16 (by decide)) ?_;refine gQ ?_;refine q0i kseal1 ?_;refine gQ ?_;refine cQ kopen1 ?_;refine cQ kopex1 ?_;refine ⟨⟨by decide,by decide⟩,q0u 5 ?_⟩;with_reducible refine sxE ?_
 refine cQ kdec ?_;refine cQ (q2g _) ?_;refine cQ (q2g _) ?_;refine cQ (q2g _) ?_;refine ⟨λ_=>⟨λ_=>⟨by rw [c];decide,λ_=>q0a ksame1 ?_,λh=>absurd (by decide) h⟩,λh=>absurd (by rw [c];rfl) h⟩,λh=>absurd (by decide) h⟩;refine gQ ?_;refine cQ (q2g _) ?_;refine cQ (q2g _) ?_;refine cQ kcmp1 ?_;refine q0d (q7I ⟨#[97]⟩ (by decide)) ?_;refine uQ 600 _ ?_;simp (maxSteps:=3000000) only [p17,go_sem,↓zA,↓reduceIte,↓reduceDIte] <;>try simp only [zB]
 refine cR (kchk1 ⟨#[97]⟩ (by decide) 15 _ chk0) ?_;refine cR (q2g _) ?_;refine q0d (q7I ⟨#[97]⟩ (by decide)) ?_;refine uQ 600 _ ?_;simp (maxSteps:=3000000) only [p17,go_sem,↓zA,↓reduceIte,↓reduceDIte] <;>try simp only [zB]
 refine cR (kchk1 ⟨#[97]⟩ (by decide) 16 _ chk1) ?_;refine cR (q2g _) ?_;refine q0d (q7I ⟨#[98]⟩ (by decide)) ?_;refine uQ 600 _ ?_;simp (maxSteps:=3000000) only [p17,go_sem,↓zA,↓reduceIte,↓reduceDIte] <;>try simp only [zB]
 refine cR (kchk1 ⟨#[98]⟩ (by decide) 15 _ chk2) ?_;refine cR (q2g _) ?_;trivial
set_option maxHeartbeats 4000000
def j3H(v lo hi:Int):PC Tryz.prog 96 [rI v,rI lo,rI hi] (rB (mIn lo hi v)):=j2H v lo hi
theorem j6w(k:Key):PC Tryz.prog 121 [.agg (KeyT.cells k)] (rB (vKey k&& decide (k.2.1=0))):=by
 have h:=k1t k;generalize vKey k=v at*;obtain ⟨p,x,c⟩:=k;refine q0q rfl rfl ?_;refine rQ fi121 ?_<;>try with_reducible exact True.intro
 repeat' (first
  | (refine q0a (h) ?_;refine uQ 600 _ ?_;simp (maxSteps:=3000000) only [go_sem,↓zA,↓reduceIte,↓reduceDIte] <;>try simp only [zB])
  | (refine q0d (h) ?_;refine uQ 600 _ ?_;simp (maxSteps:=3000000) only [go_sem,↓zA,↓reduceIte,↓reduceDIte] <;>try simp only [zB])
  | (refine q0i (h) ?_;refine uQ 600 _ ?_;simp (maxSteps:=3000000) only [go_sem,↓zA,↓reduceIte,↓reduceDIte] <;>try simp only [zB])
  | (with_reducible refine And.intro ?_ ?_)
  | (with_reducible intro _))
 all_goals ((simp_all;try grind))
theorem j2W(l:List Pre)(t:(Ty.slice PreT).ok l):PC Tryz.prog 51 [.isl PreT l] (rB (vDat l)):=by
 have hl:=t.1;refine q0q rfl rfl ?_;refine rQ fi51 ?_;refine q1q (λi=>[(3,.raw (.int .i64 ((i:Nat):Int)))]) (l.length) (λj=>(datAt l) j=true) (by first|decide|simp) (λi=>rfl) ?_ λi hi e=> ?_
 . (with_reducible refine sxE ?_<;>try exact True.intro)
   all_goals (try rfl)
 have s:=wsx i (by omega);refine gQ ?_;have f:i< (l.length)->(datAt l) i=false->allN (l.length) (datAt l)=false:=λc m=>q0w c m;have fin:¬i< (l.length)->allN (l.length) (datAt l)=true:=λh=>q0x λj hj=>e j (by omega);try dsimp only at f fin e
 have n:datAt l i=(mIn 0 2147483647 (l.getD i PreT.dflt).1&& decide (((l.getD i PreT.dflt).2.length:Int)<=4096)):=rfl;have m:i<l.length->datAt l i=false->false=vDat l:=λc h=>by unfold vDat;rw [f c h];rfl
 refine ⟨λc=>⟨⟨by omega,c⟩,q0a (j3H _ _ _) ?_⟩,λo=> ?_⟩
 . refine gQ ?_;refine ⟨λq=>⟨⟨by omega,c⟩,λu=> ?_,λu=> ?_⟩,λq=> ?_⟩
   . exact m c (by rw [n,decide_eq_false (by omega),CM])
   . refine ⟨c,q1p e (by rw [n,q,decide_eq_true (by omega)];rfl),⟨[],rfl⟩,?_⟩;with_reducible refine sx1 s ?_;trivial
   exact m c (by rw [n,q];rfl)
 unfold vDat;rw [fin o];rfl
theorem j8b(k:Key):PC Tryz.prog 50 [.agg (KeyT.cells k)] (rB (vSub k)):=by
 have h:=j6w k;unfold vSub nKey;generalize (vKey k&& decide (k.2.1=0))=v at*;obtain ⟨p,x,c⟩:=k;refine q0q rfl rfl ?_;refine rQ fi50 ?_<;>try with_reducible exact True.intro
 repeat' (first
  | (refine q0a (h) ?_;refine uQ 600 _ ?_;simp (maxSteps:=3000000) only [go_sem,↓zA,↓reduceIte,↓reduceDIte] <;>try simp only [zB])
  | (refine q0d (h) ?_;refine uQ 600 _ ?_;simp (maxSteps:=3000000) only [go_sem,↓zA,↓reduceIte,↓reduceDIte] <;>try simp only [zB])
  | (refine q0i (h) ?_;refine uQ 600 _ ?_;simp (maxSteps:=3000000) only [go_sem,↓zA,↓reduceIte,↓reduceDIte] <;>try simp only [zB])
  | (with_reducible refine And.intro ?_ ?_)
  | (with_reducible intro _))
 all_goals ((simp_all;try grind))
theorem k0Q(t m q:Int):PC Tryz.prog 49 [rI t,rI m,rI q] (rB (vTime t&& (mIn 0 999999 m&& mIn 0 4294967295 q))):=by
 refine q0q rfl rfl ?_;refine rQ fi49 ?_<;>try with_reducible exact True.intro
 repeat' (first
  | (refine q0a (j3H _ _ _) ?_;refine uQ 600 _ ?_;simp (maxSteps:=3000000) only [go_sem,↓zA,↓reduceIte,↓reduceDIte] <;>try simp only [zB])
  | (refine q0d (j3H _ _ _) ?_;refine uQ 600 _ ?_;simp (maxSteps:=3000000) only [go_sem,↓zA,↓reduceIte,↓reduceDIte] <;>try simp only [zB])
  | (refine q0i (j3H _ _ _) ?_;refine uQ 600 _ ?_;simp (maxSteps:=3000000) only [go_sem,↓zA,↓reduceIte,↓reduceDIte] <;>try simp only [zB])
  | (with_reducible refine And.intro ?_ ?_)
  | (with_reducible intro _))
 all_goals ((simp_all [vTime];try grind))
theorem q9H(a:Aut)(f:AutT.ok a):PC Tryz.prog 12 [.agg (AutT.cells a)] (rB (vAut a)):=by
 have c1:=k1F a.1 f.1;have c2:=k0Q a.2.2.1 a.2.2.2.1 a.2.2.2.2.2.1;have c3:=j8b a.2.2.2.2.1;have e:=j2W a.2.2.2.2.2.2 f.2.2.2.2.2.2;unfold vAut;obtain ⟨c,s,t,m,k,q,d⟩:=a;dsimp only at*;refine q0q rfl rfl ?_;refine rQ fi12 ?_<;>try with_reducible exact True.intro
 repeat' (first
  | (refine q0a (c1) ?_;refine uQ 600 _ ?_;simp (maxSteps:=3000000) only [go_sem,↓zA,↓reduceIte,↓reduceDIte] <;>try simp only [zB])
  | (refine q0d (c1) ?_;refine uQ 600 _ ?_;simp (maxSteps:=3000000) only [go_sem,↓zA,↓reduceIte,↓reduceDIte] <;>try simp only [zB])
  | (refine q0i (c1) ?_;refine uQ 600 _ ?_;simp (maxSteps:=3000000) only [go_sem,↓zA,↓reduceIte,↓reduceDIte] <;>try simp only [zB])
  | (refine q0a (c2) ?_;refine uQ 600 _ ?_;simp (maxSteps:=3000000) only [go_sem,↓zA,↓reduceIte,↓reduceDIte] <;>try simp only [zB])
  | (refine q0d (c2) ?_;refine uQ 600 _ ?_;simp (maxSteps:=3000000) only [go_sem,↓zA,↓reduceIte,↓reduceDIte] <;>try simp only [zB])
  | (refine q0i (c2) ?_;refine uQ 600 _ ?_;simp (maxSteps:=3000000) only [go_sem,↓zA,↓reduceIte,↓reduceDIte] <;>try simp only [zB])
  | (refine q0a (c3) ?_;refine uQ 600 _ ?_;simp (maxSteps:=3000000) only [go_sem,↓zA,↓reduceIte,↓reduceDIte] <;>try simp only [zB])
  | (refine q0d (c3) ?_;refine uQ 600 _ ?_;simp (maxSteps:=3000000) only [go_sem,↓zA,↓reduceIte,↓reduceDIte] <;>try simp only [zB])
  | (refine q0i (c3) ?_;refine uQ 600 _ ?_;simp (maxSteps:=3000000) only [go_sem,↓zA,↓reduceIte,↓reduceDIte] <;>try simp only [zB])
  | (refine q0a (e) ?_;refine uQ 600 _ ?_;simp (maxSteps:=3000000) only [go_sem,↓zA,↓reduceIte,↓reduceDIte] <;>try simp only [zB])
  | (refine q0d (e) ?_;refine uQ 600 _ ?_;simp (maxSteps:=3000000) only [go_sem,↓zA,↓reduceIte,↓reduceDIte] <;>try simp only [zB])
  | (refine q0i (e) ?_;refine uQ 600 _ ?_;simp (maxSteps:=3000000) only [go_sem,↓zA,↓reduceIte,↓reduceDIte] <;>try simp only [zB])
  | (with_reducible refine And.intro ?_ ?_)
  | (with_reducible intro _))
 all_goals ((simp_all;try grind))
def dat17(l:List Pre)(j:Nat):Bool:=decide ((l.length:Int)<=20) && decide (((l.getD j PreT.dflt).2.length:Int)<=300)
def smaB(a:Aut):Bool:=allN a.2.2.2.2.2.2.length (dat17 a.2.2.2.2.2.2) && (shortB a.1&& (decide ((a.2.1.length:Int)<=300) && decide ((a.2.2.2.2.1.2.2.length:Int)<=300)))
theorem z5l(a:Aut)(z:AutT.ok a):PC Tryz.prog 8 [.agg (AutT.cells a)] (rB (smaB a)):=by
 have c1:=z6j a.1 z.1;have hl:a.2.2.2.2.2.2.length<=1125899906842624:=z.2.2.2.2.2.2.1;unfold smaB;generalize shortB a.1=sb at*;obtain ⟨n,s,t,m,k,q,l⟩:=a;obtain ⟨k1,k2,k3⟩:=k;dsimp only at*;refine q0q rfl rfl ?_;refine rQ fi8 ?_;refine q1q (λi=>[(3,.raw (.int .i64 ((i:Nat):Int)))]) (l.length) (λj=>(dat17 l) j=true) (by first|decide|simp) (λi=>rfl) ?_ λi hi e=> ?_
 . (with_reducible refine sxE ?_<;>try exact True.intro)
   all_goals (try rfl)
 have y:=wsx i (by omega);refine gQ ?_;have f:i< (l.length)->(dat17 l) i=false->allN (l.length) (dat17 l)=false:=λc A=>q0w c A;have fin:¬i< (l.length)->allN (l.length) (dat17 l)=true:=λh=>q0x λj hj=>e j (by omega);try dsimp only at f fin e
 have o:dat17 l i=(decide ((l.length:Int)<=20) && decide (((l.getD i PreT.dflt).2.length:Int)<=300)):=rfl;refine ⟨λc=>⟨λx=>⟨⟨by omega,c⟩,λw=> ?_,λw=> ?_⟩,λx=> ?_⟩,λu=> ?_⟩
 . rw [f c (by rw [o,decide_eq_false (C5.2 w),CM]),CN]
 . refine ⟨c,q1p e (by rw [o,decide_eq_true (CU.1 x),decide_eq_true (CU.1 w)];rfl),⟨[],rfl⟩,?_⟩;with_reducible refine sx1 y ?_;trivial
 . rw [f c (by rw [o,decide_eq_false (C5.2 x),CN]),CN]
 rw [fin u,BP];refine cQ c1 ?_<;>try with_reducible exact True.intro
 repeat' (first
  | (with_reducible refine And.intro ?_ ?_)
  | (with_reducible intro _))
 all_goals ((simp_all;try omega))
def q7A(a:Int)(c:List UInt8)(ha:0<=a/\a<=4611686018427387904)(hc:c.length<=65536):datS (a,c)=tlv 48 (sufS [intS a,elemS 4 [c]] 0 2)/\(sufS [intS a,elemS 4 [c]] 0 2).length<=c.length+40:=by
 have i1:=q1h a;obtain ⟨c1,m,_⟩:=q5N (v:=a) (by omega);have n:elemS 4 [c]=tlv 4 c:=q0B (by omega);have s:=q0n 4 [c];simp only [Al,Aq,Ac] at s;have w0:=q0o 160 0 (intS a);have w2:=q0o 160 1 (elemS 4 [c]);have u:wrapS 160 0 (intS a)≠ []:=by rw [show (0:Int)=((0:Nat):Int) from rfl,q4v (by omega) (by omega) (by rw [m];exact q1r)];exact q1r
 have t:wrapS 160 1 (elemS 4 [c])≠ []:=by rw [show (1:Int)=((1:Nat):Int) from rfl,q4v (by omega) (by omega) (by rw [n];exact q1r)];exact q1r
 have f:(tagN [intS a,elemS 4 [c]] 2).flatten=sufS [intS a,elemS 4 [c]] 0 2:=q5t [intS a,elemS 4 [c]];have h:tagN [intS a,elemS 4 [c]] 2= [wrapS 160 0 (intS a),wrapS 160 1 (elemS 4 [c])]:=by simp [tagN,Bm]
 have q:(sufS [intS a,elemS 4 [c]] 0 2).length<=c.length+40:=by rw [<-f,h];simp only [Al,Aq,Ac,Aa];omega
 refine ⟨?_,q⟩;have e:allN 2 (fullAt [wrapS 160 0 (intS a),wrapS 160 1 (elemS 4 [c])])=true:=by
  refine q0x λj o=> ?_;match j,o with
  |0,_=>exact decide_eq_true u
  |1,_=>exact decide_eq_true t
 show wholeS (tagN [intS a,elemS 4 [c]] 2)=_;rw [h];unfold wholeS;rw [show ([wrapS 160 0 (intS a),wrapS 160 1 (elemS 4 [c])]:List (List UInt8)).length=2 from rfl,if_pos e,<-h,q1w (by rw [f];omega),f]
theorem j6a(a:Int)(c:List UInt8)(q:0<=a/\a<=4611686018427387904)(x:c.length<=65536)(r:List UInt8):datP (datS (a,c)++r)= .ok ((a,c),(datS (a,c)).length):=by
 have i1:=q1h a;obtain ⟨c1,h,_⟩:=q5N (v:=a) (by omega);have m:elemS 4 [c]=tlv 4 c:=q0B (by omega);have u:=q0n 4 [c];simp only [Al,Aq,Ac] at u;have f:∀j,(([intS a,elemS 4 [c]]:List (List UInt8)).getD j []).length<=16777215:=λj=>by
  match j with
  |0=>show (intS a).length<=_;omega
  |1=>show (elemS 4 [c]).length<=_;omega
  |j+2=>exact Ak _
 obtain ⟨s,hin⟩:=q7A a c q x;rw [s];refine q4l (by omega) ?_ r;have o:intP (([intS a,elemS 4 [c]]:List (List UInt8)).getD 0 [])= .ok (a,(([intS a,elemS 4 [c]]:List (List UInt8)).getD 0 []).length):=full (e:=intS a) (q6z (by omega));have w:octP (([intS a,elemS 4 [c]]:List (List UInt8)).getD 1 [])= .ok (c,(([intS a,elemS 4 [c]]:List (List UInt8)).getD 1 []).length):=full (e:=elemS 4 [c]) (z4P (by omega));have y:([intS a,elemS 4 [c]]:List (List UInt8)).getD 0 []≠ []:=by show intS a≠ [];rw [h];exact q1r
 have t:([intS a,elemS 4 [c]]:List (List UInt8)).getD 1 []≠ []:=by show elemS 4 _≠ [];rw [m];exact q1r
 unfold datIn;refine q2u (n:=0) (k:=1) (q1T f (by omega) y o) ?_;refine q2u (n:=1) (k:=0) (q1T f (by omega) t w) ?_;rfl
def j6Z{p:Pre}(h:vPre1 p=true):((0:Int)<=p.1/\p.1<=(2147483647:Int))/\p.2.length<=16384:=by simp only [vPre1,mIn,Aj,decide_eq_true_eq] at h;exact ⟨h.1,by omega⟩
def q8t(h:vPre l=true):l.length<=16/\∀p∈l,((0:Int)<=p.1/\p.1<=(2147483647:Int))/\p.2.length<=16384:=by simp only [vPre,Aj,decide_eq_true_eq] at h;refine ⟨by omega,λp e=> ?_⟩;obtain ⟨j,c,rfl⟩:=AS e;have:=q2J.1 h.2 j c;unfold preAt at this;rw [Ad,Af c] at this;exact j6Z this
def q5K{p:Pre}(h:((0:Int)<=p.1/\p.1<=(2147483647:Int))/\p.2.length<=16384):datS p≠ []/\(∀r,datP (datS p++r)= .ok (p,(datS p).length))/\(datS p).length<=16434:=by
 obtain ⟨a,c⟩:=p;obtain ⟨f,m⟩:=h;have j:(0:Int)<=a/\a<=4611686018427387904:=⟨f.1,Bc f.2 (by decide)⟩
 dsimp only at m;obtain ⟨e,hl⟩:=q7A a c j (by omega);refine ⟨by rw [e];exact q1r,j6a a c j (by omega),?_⟩;rw [e,q0I];have:=q1H (sufS [intS a,elemS 4 [c]] 0 2).length;omega
def q4u(h:vPre l=true):dataS l=tlv 48 (l.map datS).flatten/\(l.map datS).flatten.length<=16434*l.length:=by
 obtain ⟨c,f⟩:=q8t h;have n:(l.map datS).flatten.length<=16434*l.length:=flat_len datS 16434 l λx o=>(q5K (f x o)).2.2;have m:mapN (t:=PreT) datS l l.length=l.map datS:=by unfold mapN;rw [Aw]
 refine ⟨?_,n⟩;unfold dataS wholeS;rw [if_pos c,m,A0,if_pos,q1w (by omega)];refine q0x λj e=>decide_eq_true ?_;rw [Ad,Af (by rw [A0];exact e),AD];exact (q5K (f _ (Bu e))).1
def j3s(h:vPre l=true)(r:List UInt8):dataP (dataS l++r)= .ok (l,(dataS l).length):=by obtain ⟨c,j⟩:=q8t h;obtain ⟨e,hl⟩:=q4u h;rw [e];exact q4l (by omega) (z0D l 16 c λs f=>⟨(q5K (j s f)).1,(q5K (j s f)).2.1⟩) r
def preO(l:List Pre):List UInt8:=if l.length=0 then [] else dataS l
def k1D(h:vPre l=true):(if preO l= [] then l= [] else dataP (preO l)= .ok (l,(preO l).length))/\(preO l).length<=262960:=by
 obtain ⟨h16,hv⟩:=q8t h;obtain ⟨e,hl⟩:=q4u h;unfold preO;by_cases c:l.length=0
 . simp [c,AK.1 c]
 rw [if_neg c,if_neg (by rw [e];exact q1r)];refine ⟨full (j3s h),?_⟩;rw [e,q0I];have:=q1H (l.map datS).flatten.length;omega
def k1k(h:0<=v/\v<=4611686018427387904):cstP v (intS v)= .ok ((),(intS v).length):=by unfold cstP;rw [full (q6z h)];simp
def z4N(h:0<=v/\v<=4611686018427387904):intS v≠ []:=by obtain ⟨c1,c,_⟩:=q5N h;rw [c];exact q1r
theorem q5X{k:Key}(h:vKey k=true):keyOk k:=by
 obtain ⟨a,v,c⟩:=k;simp only [vKey,keyLen,Aj,decide_eq_true_eq] at h;change Int at a v;obtain ⟨f,j,n,m⟩:=h;refine ⟨?_,⟨n,Bc (show v<=(65535:Int) from m) (by decide)⟩,?_⟩
 . split at f
   . rename_i e;rw [e];decide
   split at f
   . rename_i e;rw [e];decide
   exact absurd rfl f
 split at j
 . omega
 split at j
 . omega
 omega
def octO(b:List UInt8):List UInt8:=if b.length=0 then [] else elemS 4 [b]
def keyO(k:Key):List UInt8:=if k.1=0 then [] else keyS k
def autL(a:Aut):List (List UInt8):=[intS 5,prinS a.1,octO a.2.1,intS a.2.2.2.1,timeS a.2.2.1,keyO a.2.2.2.2.1,intS a.2.2.2.2.2.1,preO a.2.2.2.2.2.2]
def z0W{t:UInt8}{l c:List (List UInt8)}(h:l.flatten=c.flatten):elemS t l=elemS t c:=by unfold elemS;rw [h]
def j6X(a:Aut):autS a=wrapS 96 2 (tagS (autL a)):=by obtain ⟨c,s,t,m,k,q,d⟩:=a;have f (n:Int):wrapS 160 n []= []:=if_neg λh=>h.2.2 rfl;unfold autS tagS;congr 1;refine z0W ?_;show _=(tagN (autL (c,s,t,m,k,q,d)) 8).flatten;unfold encL sumE subE datE tagN;simp only [Bm,List.range_zero,Ar,BF,AC,BN,BD,Al,Aq,Ac,List.append_assoc,autL,octO,keyO,preO,AF,AM];by_cases e:s.length=0<;>by_cases j:k.1=0<;>by_cases o:d.length=0<;>simp [e,j,o,f]
def z5b{l:List (List UInt8)}{v:α}{n:Nat}(f:∀j,(l.getD j []).length<=16777215)(hn:n+k<=30)(c:if l.getD n []= [] then v=d else p (l.getD n [])= .ok (v,(l.getD n []).length)/\fit v=true):
 optQ n p d fit (sufS l n (k+1))= .ok (v,(wrapS 160 (n:Nat) (l.getD n [])).length)/\(sufS l n (k+1)).drop (wrapS 160 (n:Nat) (l.getD n [])).length=sufS l (n+1) k:=by
 rw [q0T,B8];refine ⟨?_,rfl⟩;rw [q3O (by omega) (f n)];unfold optQ mayP;by_cases e:l.getD n []= []
 . rw [if_pos e] at c;rw [if_pos e,Ar,z6i l f k (n+1) (by omega) n (by omega),c];rfl
 rw [if_neg e] at c;rw [if_neg e,z2b,if_pos rfl,q4l (f n) c.1];simp only;rw [if_pos c.2]
def z0f(h:vDat l=true):vPre l=true/\l.length<=16/\∀p∈l,p.2.length<=4096:=by
 simp only [vDat,Aj,decide_eq_true_eq] at h;have e:∀j,j<l.length->datAt l j=true:=q2J.1 h.1;refine ⟨?_,by omega,λp f=> ?_⟩
 . unfold vPre;rw [decide_eq_true h.2,BP];refine q0x λj c=> ?_;have:=e j c;simp only [datAt,Aj,decide_eq_true_eq] at this;unfold preAt vPre1;rw [this.1,BP];exact decide_eq_true (by omega)
 obtain ⟨j,c,rfl⟩:=AS f;have:=e j c;simp only [datAt,Aj,decide_eq_true_eq] at this;rw [Ad,Af c] at this;have h2:(((l[j]).2.length:Nat):Int)<=4096:=this.2;omega
variable {a:Aut}
def z2v(h:vAut a=true):autS a=tlv (appB 2) (tlv 48 (sufS (autL a) 0 8))/\(∀j,((autL a).getD j []).length<=16777215)/\(sufS (autL a) 0 8).length<=1048576/\∀r,autP (autS a++r)= .ok (a,(autS a).length):=by
 have Y:=j6X a;obtain ⟨c,s,t,m,k,q,d⟩:=a;simp only [vAut,Aj,decide_eq_true_eq] at h;obtain ⟨H,S,Z,U,I,h6,W⟩:=h;change Int at t m q;have Q:(0:Int)<=t/\t<=1099511627776:=by simpa only [vTime,mIn,Aj,decide_eq_true_eq] using Z
 have P:(0:Int)<=m/\m<=999999:=by simpa only [mIn,Aj,decide_eq_true_eq] using U
 have N:(0:Int)<=q/\q<=4294967295:=by simpa only [mIn,Aj,decide_eq_true_eq] using h6
 obtain ⟨f,rfl⟩:∃n:Nat,t=n:=⟨t.toNat,by omega⟩
 have h2':s.length<=64:=by have:((s.length:Nat):Int)<=64:=S;omega
 obtain ⟨K,F,w⟩:=j2A H;have e1:prinE c=prinS c:=if_pos H;rw [e1] at K F w;obtain ⟨X,_,_⟩:=z0f W;obtain ⟨z,C⟩:=k1D X;have y:k=nKey\/(keyOk k/\k.1≠0):=by simp only [vSub,BK,Aj,decide_eq_true_eq] at I;refine orMap I id λx=>⟨q5X x.1,λe=> ?_⟩;have:=x.1;obtain ⟨k1,k2,k3⟩:=k;simp only at e;subst e;simp [vKey,keyLen] at this
 have A:(if keyO k= [] then k=nKey else keyP (keyO k)= .ok (k,(keyO k).length)/\(!decide (k.1=0))=true)/\(keyO k).length<=65600:=by
  rcases y with rfl| ⟨y,G⟩
  . exact ⟨rfl,Ak _⟩
  unfold keyO;rw [if_neg G,if_neg (z8W y)];exact ⟨⟨full (j6b y),by simpa using G⟩,j6k y⟩
 have E:(if octO s= [] then s= [] else octP (octO s)= .ok (s,(octO s).length)/\decide (0< (s.length:Int))=true)/\(octO s).length<=80:=by
  unfold octO;by_cases u:s.length=0
  . rw [if_pos u];exact ⟨by rw [if_pos rfl];exact AK.1 u,Ak _⟩
  have:=q1H s.length;rw [if_neg u,q0B (by omega),if_neg q1r,<-q0B (by omega)];refine ⟨⟨full (z4P (by omega)),decide_eq_true (by omega)⟩,?_⟩;rw [q0B (by omega),q0I];omega
 have D:if preO d= [] then d= [] else dataP (preO d)= .ok (d,(preO d).length)/\decide (0< (d.length:Int))=true:=by
  by_cases u:preO d= []
  . rw [if_pos u] at z⊢;exact z
  rw [if_neg u] at z⊢;refine ⟨z,decide_eq_true ?_⟩;have:d.length≠0:=λe=>u (if_pos e);omega
 have J:(0:Int)<=m/\m<=4611686018427387904:=⟨P.1,Bc P.2 (by decide)⟩
 have L:(0:Int)<=q/\q<=4611686018427387904:=⟨N.1,Bc N.2 (by decide)⟩
 have i5:=q1h 5;have im:=q1h m;have iq:=q1h q;have tt:(timeS (f:Int)).length<=20:=by
  rw [q4s Q,q0I];have:=q1H (numS (f:Int) 6).length;have h9:(numS (f:Int) 6).length=6:=by simp [numS]
  omega
 have o:∀j,((autL (c,s,(f:Int),m,k,q,d)).getD j []).length<=16777215:=λj=>by
  match j with
  |0=>show (intS 5).length<=_;omega
  |1=>show (prinS c).length<=_;omega
  |2=>exact Ao E.2 (by omega)
  |3=>show (intS m).length<=_;omega
  |4=>show (timeS (f:Int)).length<=_;omega
  |5=>exact Ao A.2 (by omega)
  |6=>show (intS q).length<=_;omega
  |7=>exact Ao C (by omega)
  |j+8=>exact Ak _
 have O:(sufS (autL (c,s,(f:Int),m,k,q,d)) 0 8).length<=1048576:=by refine Ao (z4I 8 0) ?_;have a1:=E.2;have a2:=A.2;show (intS 5).length+5+ ((prinS c).length+5+ ((octO s).length+5+ ((intS m).length+5+ ((timeS (f:Int)).length+5+ ((keyO k).length+5+ ((intS q).length+5+ ((preO d).length+5+0)))))))<=_;omega
 have V:tagS (autL (c,s,(f:Int),m,k,q,d))=tlv 48 (sufS (autL (c,s,(f:Int),m,k,q,d)) 0 8):=j2j (l:=autL (c,s,(f:Int),m,k,q,d)) (Ao O (by decide));have hl48:(tlv 48 (sufS (autL (c,s,(f:Int),m,k,q,d)) 0 8)).length<=1048590:=by rw [q0I];have:=q1H (sufS (autL (c,s,(f:Int),m,k,q,d)) 0 8).length;omega
 have R:autS (c,s,(f:Int),m,k,q,d)=tlv (appB 2) (tlv 48 (sufS (autL (c,s,(f:Int),m,k,q,d)) 0 8)):=by rw [Y,V];unfold wrapS;rw [if_pos ⟨by decide,by decide,q1r⟩,q0B (by omega)];rfl
 have B:autIn (sufS (autL (c,s,(f:Int),m,k,q,d)) 0 8)= .ok ((c,s,(f:Int),m,k,q,d),(sufS (autL (c,s,(f:Int),m,k,q,d)) 0 8).length):=by unfold autIn;refine q2u (n:=0) (k:=7) (q1T o (by omega) (z4N (v:=5) (by decide)) (k1k (by decide))) ?_;refine q2u (n:=1) (k:=6) (q1T o (by omega) w (full K)) ?_;refine q2u (n:=2) (k:=5) (z5b o (by omega) E.1) ?_;refine q2u (n:=3) (k:=4) (q1T o (by omega) (z4N J) (full (q6z J))) ?_;refine q2u (n:=4) (k:=3) (q1T o (by omega) (by show timeS (f:Int)≠ [];rw [q4s Q];exact q1r) (full (j2y (by omega)))) ?_;refine q2u (n:=5) (k:=2) (z5b o (by omega) A.1) ?_;refine q2u (n:=6) (k:=1) (q1T o (by omega) (z4N L) (full (q6z L))) ?_;refine q2u (n:=7) (k:=0) (z5b o (by omega) D) ?_;rfl
 refine ⟨R,o,O,λr=> ?_⟩;rw [R];exact q4l (by omega) (full (q4l (by omega) B)) r
def j1A(h:vAut a=true):autD (autS a)=some a:=by have c:=full (z2v h).2.2.2;unfold autD allP;rw [c];simp [h]
theorem j6J(h:vAut a=true):(autS a).length<=1048700:=by obtain ⟨c,_,h3,_⟩:=z2v h;rw [c,q0I];have l1:=q1H (tlv 48 (sufS (autL a) 0 8)).length;have l2:=q1H (sufS (autL a) 0 8).length;rw [q0I] at*;omega
end Go.Proofs.YthbcodbcndiapaaGreatDoor