/- Contracts: reading a key. -/
import Derived.Test.YtmapiojgmbgbgaaGreatDoorQ21
set_option linter.all false
namespace Go.Proofs.YtmapiojgmbgbgaaGreatDoor
open Go Go.Sx Go.Proofs
set_option maxRecDepth 100000
set_option maxHeartbeats 4000000
def zO{α:Type}(res:α→SV):Except Nat (α×Nat)→Out
 |.ok (v,_)=>.ret (res v)
 |.error e=>.pan (errV e)
def zH{α:Type}(b:List UInt8)(n m:Nat):Except Nat (α×Nat)→List SObj
 |.ok (_,k)=>[rdr b (n+k)]
 |.error _=>[rdr b m]
attribute [go_sem] zO zH
def EffZ(P:Program){α:Type}(f:FuncId)(args:List SV)(b:List UInt8)(n m:Nat)(res:α→SV)(x:Except Nat (α×Nat)):Prop:=PE P f args [rdr b n] (zO res x) (zH b n m x)
theorem z2p{P:Program}{α:Type}{f:FuncId}{args:List SV}{b:List UInt8}{n m:Nat}{res:α→SV}{x:Except Nat (α×Nat)}(h:VC P f args [rdr b n] (SealO (zO res x) (zH b n m x))):EffZ P f args b n m res x:=by
 cases x with
 |error e=>exact q0b (by simp [zH]) h
 |ok y=>exact q0b (by simp [zH]) h
theorem z8U{P:Program}{α:Type}{f:FuncId}{args:List SV}{b:List UInt8}{n m:Nat}{res:α→SV}{x:Except Nat (α×Nat)}{v:α}{k:Nat}(h:EffZ P f args b n m res x)(hx:x= .ok (v,k)):PE P f args [rdr b n] (.ret (res v)) [rdr b (n+k)]:=by rw [hx] at h;exact h
theorem z6n{P:Program}{α:Type}{f:FuncId}{args:List SV}{b:List UInt8}{n m:Nat}{res:α→SV}{x:Except Nat (α×Nat)}{e:Nat}(h:EffZ P f args b n m res x)(hx:x= .error e):PE P f args [rdr b n] (.pan (errV e)) [rdr b m]:=by rw [hx] at h;exact h
def posX(b:List UInt8)(n:Nat):Nat:=if takeE 48 (b.drop n)=0 then n+takeN (b.drop n) else n
theorem j6f{b:List UInt8}{n:Nat}(h:takeE 48 (b.drop n)=0):posX b n=n+takeN (b.drop n):=if_pos h
theorem j5H{b:List UInt8}{n:Nat}(h:takeE 48 (b.drop n)≠0):posX b n=n:=if_neg h
def tripIn:PR Key:=bindP (needP 0 intP) fun a=>bindP (needP 1 intP) fun k=>bindP (needP 2 octP) fun c=>retP ((a,k,c):Key)
def keyP:PR Key:=inP 48 tripIn
theorem z4t{α β:Type}{p:PR α}{f:α→PR β}{b:List UInt8}{v:α}{k:Nat}(h:p b= .ok (v,k)):bindP p f b=shiftP k (f v (b.drop k)):=by
 have:=q5l (f:=f) (b:=b) (n:=0) (by rw [As];exact h)
 rwa [As,Ab] at this
theorem z8v(b:List UInt8)(n:Nat)(hn:n≤b.length)(hb:b.length≤1099511627776):
 EffZ Tryz.prog 166 [.ptr 0 0] b n (posX b n) (fun v:Key=>.tup [rI v.1,rI v.2.1,.isl .u8 v.2.2]) (keyP (b.drop n)):=by
 unfold keyP;by_cases h:takeE 48 (b.drop n)=0
 · have hs:=q5T b n hn hb h;have hc:=q1u (n:=n) hb;rw [z5S h,j6f h];generalize takeC (b.drop n)=c at*;generalize takeN (b.drop n)=N at*;unfold tripIn;refine z2p ?_;refine rQ fi166 ?_;refine eQ [0] (hs) ?_;refine eQ [1] (z7A c 0) ?_;have e1:=j2g 0 (by omega) c 0 (Ak _) hc
   rw [As] at e1;cases h1:needP 0 intP c with
   |error e=>
    rw [q4o h1];have e1':=z0j e1 h1;simp only [closeP];refine effP [1] (e1') ?_;trivial
   |ok x=>
    obtain ⟨v1,k1⟩:=x;rw [z4t h1];have e1':=z0d e1 h1;have f1:=q0J _ _ _ h1;rw [Ab] at e1';refine eQ [1] (e1') ?_;have e2:=j2g 1 (by omega) c _ f1 hc
    cases h2:needP 1 intP (c.drop k1) with
    |error e=>
     rw [q4o h2];have e2':=z0j e2 h2;simp only [shiftP,closeP];refine effP [1] (e2') ?_;trivial
    |ok x=>
     obtain ⟨v2,k2⟩:=x;rw [q5l h2];have e2':=z0d e2 h2;have f2:=q2M q0J f1 h2;refine eQ [1] (e2') ?_;have e3:=j6r 2 (by omega) c _ f2 hc
     cases h3:needP 2 octP (c.drop (k1+k2)) with
     |error e=>
      rw [q4o h3];have e3':=z0j e3 h3;simp only [shiftP,closeP];refine effP [1] (e3') ?_;trivial
     |ok x=>
      obtain ⟨v3,k3⟩:=x;rw [q5l h3];have e3':=z0d e3 h3;have f3:=q2M q0J f2 h3;simp only [shiftP,retP,closeP];refine eQ [1] (e3') ?_;by_cases hm:k1+k2+k3<c.length
      · rw [if_pos (by omega)]
        refine effP [1] (z8d c _ hm) ?_;rfl
      rw [if_neg (by omega)]
      refine eQ [1] (z9d c (k1+k2+k3) (by omega)) ?_;trivial
 have hs:=z0F b n hn hb h;rw [z5X h,j5H h];generalize takeE 48 (b.drop n)=e at*;refine z2p ?_;refine rQ fi166 ?_;refine eQ [0] (hs) ?_;refine effP [] (z1I e h) ?_;trivial
theorem q8r{n:Nat}{b:List UInt8}(hn:n≤30)(h:b.length≤16777215)(h0:b≠ []):wrapS 160 n b=tlv (tagB n) b:=by rw [q3w hn h,if_neg h0]
theorem q2r{t:UInt8}{c:List UInt8}:tlv t c≠ []:=by simp [tlv]
theorem q6R(a v:Int)(c:List UInt8)(ha:0≤a∧a≤1048576)(hv:0≤v∧v≤1048576)(hc:c.length≤65536):keyS (a,v,c)=tlv 48 (sufS [intS a,intS v,elemS 4 [c]] 0 3)∧(sufS [intS a,intS v,elemS 4 [c]] 0 3).length≤16777215:=by
 have i1:=q1a a;have i2:=q1a v;obtain ⟨c1,e1,_⟩:=q6F (v:=a) (by omega)
 obtain ⟨c2,e2,_⟩:=q6F (v:=v) (by omega)
 have e3:elemS 4 [c]=tlv 4 c:=q1L (by omega)
 have w3:=q0v 4 [c];simp only [Aq,AB,Ai] at w3;have w0:=q0y 160 0 (intS a);have w1:=q0y 160 1 (intS v);have w2:=q0y 160 2 (elemS 4 [c]);have n0:wrapS 160 0 (intS a)≠ []:=by rw [show (0:Int)=((0:Nat):Int) from rfl,q8r (by omega) (by omega) (by rw [e1];exact q2r)];exact q2r
 have n1:wrapS 160 1 (intS v)≠ []:=by rw [show (1:Int)=((1:Nat):Int) from rfl,q8r (by omega) (by omega) (by rw [e2];exact q2r)];exact q2r
 have n2:wrapS 160 2 (elemS 4 [c])≠ []:=by rw [show (2:Int)=((2:Nat):Int) from rfl,q8r (by omega) (by omega) (by rw [e3];exact q2r)];exact q2r
 have hf:(tagN [intS a,intS v,elemS 4 [c]] 3).flatten=sufS [intS a,intS v,elemS 4 [c]] 0 3:=q9n [intS a,intS v,elemS 4 [c]];have ht:tagN [intS a,intS v,elemS 4 [c]] 3= [wrapS 160 0 (intS a),wrapS 160 1 (intS v),wrapS 160 2 (elemS 4 [c])]:=by simp [tagN,CG]
 have hl:(sufS [intS a,intS v,elemS 4 [c]] 0 3).length≤16777215:=by
  rw [←hf,ht];simp only [Aq,AB,Ai,Ac];omega
 refine ⟨?_,hl⟩;have hfull:allN 3 (fullAt [wrapS 160 0 (intS a),wrapS 160 1 (intS v),wrapS 160 2 (elemS 4 [c])])=true:=by
  refine q0u fun j hj=> ?_
  match j,hj with
  |0,_=>exact decide_eq_true n0
  |1,_=>exact decide_eq_true n1
  |2,_=>exact decide_eq_true n2
 show wholeS [wrapS 160 0 (intS a),wrapS 160 1 (intS v),wrapS 160 2 (elemS 4 [c])]=_;unfold wholeS;rw [show ([wrapS 160 0 (intS a),wrapS 160 1 (intS v),wrapS 160 2 (elemS 4 [c])]:List (List UInt8)).length=3 from rfl,if_pos hfull,←ht,q1F (by rw [hf];exact hl),hf]
theorem j2O(a v:Int)(c:List UInt8)(ha:0≤a∧a≤1048576)(hv:0≤v∧v≤1048576)(hc:c.length≤65536)(r:List UInt8):keyP (keyS (a,v,c)++r)= .ok ((a,v,c),(keyS (a,v,c)).length):=by
 have i1:=q1a a;have i2:=q1a v;obtain ⟨c1,e1,_⟩:=q6F (v:=a) (by omega)
 obtain ⟨c2,e2,_⟩:=q6F (v:=v) (by omega)
 have e3:elemS 4 [c]=tlv 4 c:=q1L (by omega)
 have w3:=q0v 4 [c];simp only [Aq,AB,Ai] at w3;have hL:∀j,(([intS a,intS v,elemS 4 [c]]:List (List UInt8)).getD j []).length≤16777215:=fun j=>by
  match j with
  |0=>show (intS a).length≤_;omega
  |1=>show (intS v).length≤_;omega
  |2=>show (elemS 4 [c]).length≤_;omega
  |j+3=>exact Ak _
 obtain ⟨hS,hin⟩:=q6R a v c ha hv hc;rw [hS];refine q4O hin ?_ r;have q0:intP (([intS a,intS v,elemS 4 [c]]:List (List UInt8)).getD 0 [])= .ok (a,(([intS a,intS v,elemS 4 [c]]:List (List UInt8)).getD 0 []).length):=full (e:=intS a) (q9z (by omega))
 have q1:intP (([intS a,intS v,elemS 4 [c]]:List (List UInt8)).getD 1 [])= .ok (v,(([intS a,intS v,elemS 4 [c]]:List (List UInt8)).getD 1 []).length):=full (e:=intS v) (q9z (by omega))
 have q2:octP (([intS a,intS v,elemS 4 [c]]:List (List UInt8)).getD 2 [])= .ok (c,(([intS a,intS v,elemS 4 [c]]:List (List UInt8)).getD 2 []).length):=full (e:=elemS 4 [c]) (j4t (by omega))
 have n0:([intS a,intS v,elemS 4 [c]]:List (List UInt8)).getD 0 []≠ []:=by show intS a≠ [];rw [e1];exact q2r
 have n1:([intS a,intS v,elemS 4 [c]]:List (List UInt8)).getD 1 []≠ []:=by show intS v≠ [];rw [e2];exact q2r
 have n2:([intS a,intS v,elemS 4 [c]]:List (List UInt8)).getD 2 []≠ []:=by show elemS 4 _≠ [];rw [e3];exact q2r
 have g:=q3u (f:=fun a=>bindP (needP 1 intP) fun k=>bindP (needP 2 octP) fun c=>retP ((a,k,c):Key)) (q1V (k:=2) hL (by omega) n0 q0)
  (q3u (f:=fun k=>bindP (needP 2 octP) fun c=>retP ((a,k,c):Key)) (q1V (k:=1) hL (by omega) n1 q1)
   (q3u (f:=fun c=>retP ((a,v,c):Key)) (q1V (k:=0) hL (by omega) n2 q2) rfl))
 show tripIn _=_;unfold tripIn;rw [g];congr 2;rw [q0S,q0S,q0S];simp only [sufS,List.range'_zero,Cs,AB,Ai,Ac,Ab,Nat.reduceAdd];omega
theorem j1y(a v:Int)(c:List UInt8):(keyS (a,v,c)).length≤c.length+58:=by
 have i1:=q1a a;have i2:=q1a v;have w3:=q0v 4 [c];simp only [Aq,AB,Ai] at w3;have w0:=q0y 160 0 (intS a);have w1:=q0y 160 1 (intS v);have w2:=q0y 160 2 (elemS 4 [c]);show (wholeS [wrapS 160 0 (intS a),wrapS 160 1 (intS v),wrapS 160 2 (elemS 4 [c])]).length≤_;have w4:=q0v 48 [wrapS 160 0 (intS a),wrapS 160 1 (intS v),wrapS 160 2 (elemS 4 [c])];simp only [Aq,AB,Ai,Ac] at w4;unfold wholeS;split
 · omega
 simp
theorem flat_len{α:Type}(f:α→List UInt8)(B:Nat):∀l:List α,(∀x∈l,(f x).length≤B)→(l.map f).flatten.length≤B*l.length
 | [],_=>by simp
 |x :: l,h=>by
  have h1:=h x (by simp)
  have h2:=flat_len f B l fun y hy=>h y (by simp [hy])
  simp only [AY,Aq,Ac,AF,CT,AP];omega
def keyOk3(a v:Int)(c:List UInt8):Prop:=(0≤a∧a≤1048576)∧(0≤v∧v≤1048576)∧c.length≤65536
def keyOk:Key→Prop
 | (a,v,c)=>keyOk3 a v c
theorem z6j{k:Key}(h:keyOk k)(r:List UInt8):keyP (keyS k++r)= .ok (k,(keyS k).length):=by
 obtain ⟨a,v,c⟩:=k;exact j2O a v c h.1 h.2.1 h.2.2 r
theorem z6u{k:Key}(h:keyOk k):(keyS k).length≤65600:=by
 obtain ⟨a,v,c⟩:=k;have h1:=j1y a v c;have h2:c.length≤65536:=h.2.2;exact Am h1 (by omega)
theorem z6S{k:Key}(h:keyOk k):keyS k≠ []:=by
 obtain ⟨a,v,c⟩:=k;rw [(q6R a v c h.1 h.2.1 h.2.2).1];exact q2r
theorem z8q{t:Ty}{p:PR t.den}{w:t.den→List UInt8}{l:List t.den}{n:Nat}(hl:l.length≤n)(hx:∀x∈l,w x≠ []∧∀r,p (w x++r)= .ok (x,(w x).length))(hb:(l.map w).flatten.length≤16777215):
 if listS w l= [] then l= [] else inP 48 (listP p n) (listS w l)= .ok (l,(listS w l).length):=by
 by_cases h0:l.length=0
 · rw [if_pos (by unfold listS;rw [if_pos h0])];exact A2.1 h0
 have e:listS w l=tlv 48 (l.map w).flatten:=by unfold listS mapN;rw [if_neg h0,AA,q1F hb]
 rw [e,if_neg q2r];exact full (q4O hb (q9v l n hl hx))
theorem z4f{t:Ty}{w:t.den→List UInt8}{l:List t.den}(B:Nat)(hx:∀x∈l,(w x).length≤B):(listS w l).length≤B*l.length+5:=by
 unfold listS;split
 · simp
 have h1:=q0v 48 (mapN w l l.length);have h2:=flat_len w B l hx;unfold mapN at h1;rw [AA] at h1;unfold mapN;rw [AA];omega
theorem z3I{l:List (List UInt8)}(h:(sufS l 0 l.length).length≤16777215):tagS l=tlv 48 (sufS l 0 l.length):=by
 unfold tagS;rw [q1F (by rw [q9n];exact h),q9n]
theorem z0n{l:List (List UInt8)}:∀ (k n:Nat),(sufS l n k).length≤((List.range' n k).map fun j=>(l.getD j []).length+5).sum
 |0,n=>by simp [sufS]
 |k+1,n=>by
  rw [q0S,CW];have:=q0y 160 (n:Nat) (l.getD n []);have:=z0n (l:=l) k (n+1);simp only [Ac,AY,List.sum_cons];omega
def atP{α:Type}(p:PR α)(l:List UInt8):PR α:=fun _=>match p l with
 |.ok (x,_)=>.ok (x,0)
 |.error e=>.error e
def strsP(l:List UInt8):PR (List ByteArray):=atP (listP strP l.length) l
def nameIn:PR Prin:=bindP (needP 0 (rdP 48 decOct)) fun l=>bindP (strsP l) fun xs=>bindP (needP 1 strP) fun t=>retP ((xs,t):Prin)
def chkP{α:Type}(q:α→Bool):Except Nat (α×Nat)→Except Nat (α×Nat)
 |.ok (v,k)=>if q v=true then .ok (v,k) else .error 6
 |.error e=>.error e
def nameP:PR Prin:=fun r=>chkP vPrin (inP 48 nameIn r)
theorem z8D{α:Type}(f:α→List UInt8):∀l:List α,(∀x∈l,f x≠ [])→l.length≤(l.map f).flatten.length
 | [],_=>by simp
 |x :: l,h=>by
  have h1:=CI.2 (h x (by simp))
  have h2:=z8D f l fun y hy=>h y (by simp [hy])
  simp only [AY,Aq,Ac,AF];omega
def strE(s:ByteArray):List UInt8:=elemS 27 [s.data.toList]
theorem q9Q(s:ByteArray):(strE s).length≤s.size+5:=by
 have:=q0v 27 [s.data.toList];have hl:s.data.toList.length=s.size:=by simp
 simp only [Aq,AB,Ai] at this;unfold strE;omega
theorem z3j{s:ByteArray}(h:s.size≤16777215):strE s≠ []:=by
 have hl:s.data.toList.length=s.size:=by simp
 unfold strE;rw [q1L (by omega)];exact q2r
theorem z1C(xs:List ByteArray)(t:ByteArray)(hn:xs.length≤16)(hx:∀x∈xs,x.size≤65536)(ht:t.size≤65536):
 (sufS [elemS 48 (strsN xs xs.length),strE t] 0 2).length≤1200000∧nameIn (sufS [elemS 48 (strsN xs xs.length),strE t] 0 2)= .ok ((xs,t),(sufS [elemS 48 (strsN xs xs.length),strE t] 0 2).length):=by
 have e0:strsN xs xs.length=xs.map strE:=by unfold strsN strE;rw [AA]
 have hb:(xs.map strE).flatten.length≤1048700:=by
  have:=flat_len strE 65541 xs fun x hx'=>by
   have:=q9Q x;have:=hx x hx';omega
  have h4:65541*xs.length≤65541*16:=Bd _ hn;omega
 have e1:elemS 48 (strsN xs xs.length)=tlv 48 (xs.map strE).flatten:=by rw [e0,q1F (by omega)]
 have hF:=z8D strE xs fun x hx'=>z3j (by have:=hx x hx';omega)
 have l1:=q9Q t;have l0:(elemS 48 (strsN xs xs.length)).length≤1048705:=by
  have:=q0v 48 (strsN xs xs.length);rw [e0] at this⊢;omega
 have hs:=z0n (l:=[elemS 48 (strsN xs xs.length),strE t]) 2 0;have hs':(sufS [elemS 48 (strsN xs xs.length),strE t] 0 2).length≤1200000:=by
  refine Am hs ?_;show (elemS 48 (strsN xs xs.length)).length+5+ ((strE t).length+5+0)≤_;omega
 refine ⟨hs',?_⟩;have hL:∀j,(([elemS 48 (strsN xs xs.length),strE t]:List (List UInt8)).getD j []).length≤16777215:=fun j=>by
  match j with
  |0=>show (elemS 48 (strsN xs xs.length)).length≤_;omega
  |1=>show (strE t).length≤_;omega
  |j+2=>exact Ak _
 have q0:rdP 48 decOct (elemS 48 (strsN xs xs.length))= .ok ((xs.map strE).flatten,(elemS 48 (strsN xs xs.length)).length):=by
  rw [e1];exact full (q7U (by omega) rfl)
 have n0:elemS 48 (strsN xs xs.length)≠ []:=by rw [e1];exact q2r
 have q1:listP strP (xs.map strE).flatten.length (xs.map strE).flatten= .ok (xs,(xs.map strE).flatten.length):=q9v xs _ hF fun x hx'=>⟨z3j (by have:=hx x hx';omega),z7k (by have:=hx x hx';omega)⟩
 have q1':∀r,strsP (xs.map strE).flatten r= .ok (xs,0):=fun r=>by unfold strsP atP;rw [q1]
 have q2:strP (strE t)= .ok (t,(strE t).length):=full (z7k (by omega))
 have n2:strE t≠ []:=z3j (by omega)
 have g:=q3u (f:=fun l=>bindP (strsP l) fun xs=>bindP (needP 1 strP) fun t=>retP ((xs,t):Prin)) (q1V (l:=[elemS 48 (strsN xs xs.length),strE t]) (n:=0) (k:=1) hL (by omega) n0 q0)
  (q3u (p:=strsP (xs.map strE).flatten) (f:=fun xs=>bindP (needP 1 strP) fun t=>retP ((xs,t):Prin)) (r':=sufS [elemS 48 (strsN xs xs.length),strE t] 1 1) ⟨q1' _,As⟩
   (q3u (f:=fun t=>retP ((xs,t):Prin)) (q1V (l:=[elemS 48 (strsN xs xs.length),strE t]) (n:=1) (k:=0) hL (by omega) n2 q2) rfl))
 unfold nameIn;rw [g];congr 2;rw [q0S,q0S];simp only [sufS,List.range'_zero,Cs,AB,Ai,Ac,Ab,Nat.reduceAdd];omega
theorem j1g(xs:List ByteArray)(t:ByteArray)(hn:xs.length≤16)(hx:∀x∈xs,x.size≤65536)(ht:t.size≤65536)(hv:vPrin (xs,t)=true):
 (∀r:List UInt8,nameP (prinS (xs,t)++r)= .ok ((xs,t),(prinS (xs,t)).length))∧(prinS (xs,t)).length≤1200010∧prinS (xs,t)≠ []:=by
 obtain ⟨h1,h2⟩:=z1C xs t hn hx ht;have hS:prinS (xs,t)=tlv 48 (sufS [elemS 48 (strsN xs xs.length),strE t] 0 2):=by
  show elemS 48 [wrapS 160 0 (elemS 48 (strsN xs xs.length)),wrapS 160 1 (strE t)]=_;have e:([wrapS 160 0 (elemS 48 (strsN xs xs.length)),wrapS 160 1 (strE t)]:List (List UInt8)).flatten=sufS [elemS 48 (strsN xs xs.length),strE t] 0 2:=by
   rw [q0S,q0S];simp [sufS]
  rw [q1F (by rw [e];omega),e]
 rw [hS];refine ⟨fun r=> ?_,?_,q2r⟩
 · unfold nameP;rw [q4O (by omega) h2 r]
   simp only [chkP];rw [if_pos hv]
 rw [q1p];have:=q6T (sufS [elemS 48 (strsN xs xs.length),strE t] 0 2).length;omega
theorem q6m{B:Nat}:∀ (m:List (List UInt8)),(∀x∈m,x.length≤B)→m.flatten.length≤B*m.length
 | [],_=>by simp
 |x :: m,h=>by
  have h1:=h x (by simp)
  have h2:=q6m m (fun y hy=>h y (by simp [hy]))
  simp only [Aq,Ac,AF,CT,AP];omega
theorem q8S{l:List ByteArray}{k:Nat}(hl:l.length≤4)(h:∀x∈l,x.size≤32):(strsN l k).flatten.length≤148:=by
 have h1:=q6m (B:=37) (strsN l k) (fun x hx=>by
  unfold strsN at hx;rw [Bl] at hx;obtain ⟨y,hy,rfl⟩:=hx;have h2:=h y (B8 hy);have h3:=q0v 27 [y.data.toList];have h4:y.data.toList.length=y.size:=by simp
  simp only [Aq,AB,Ai] at h3
  omega)
 have h2:(strsN l k).length≤4:=by unfold strsN;simp;omega
 have:37* (strsN l k).length≤37*4:=Bd _ h2;omega
theorem j5G(k:Key)(h1:0≤k.1∧k.1≤4611686018427387904)(h2:0≤k.2.1∧k.2.1≤4611686018427387904)(h3:k.2.2.length≤4096):PC Tryz.prog 158 [.agg (KeyT.cells k)] (.isl .u8 (elemS 48 [wrapS 160 0 (intS k.1),wrapS 160 1 (intS k.2.1),wrapS 160 2 (elemS 4 [k.2.2])])):=by
 have g1:=q1a k.1;have g2:=q1a k.2.1;have g3:=q0v 4 [k.2.2];simp only [Aq,AB,Ai] at g3;have g5:=q0y 160 0 (intS k.1);have g6:=q0y 160 1 (intS k.2.1);have g7:=q0y 160 2 (elemS 4 [k.2.2]);refine q0f rfl rfl ?_;refine rQ fi158 ?_;refine cR (z6g _ h1) ?_;refine cR (q3c 0 (by decide) _ (by omega)) ?_
 refine cR (z6g _ h2) ?_;refine cR (q3c 1 (by decide) _ (by omega)) ?_
 refine cR (j6i _ (by omega)) ?_
 refine cR (q3c 2 (by decide) _ (by omega)) ?_
 refine q0A 1 (by decide) ?_
 with_reducible refine sxE ?_
 refine cR (q7O _ (by simp) (by simp only [Aq,AB,Ai,Ac];omega)) ?_;trivial
theorem q2T{α β:Type}{p:PR α}{f:α→PR β}{l:List (List UInt8)}{n k:Nat}{v:α}{u:β}(h:p (sufS l n (k+1))= .ok (v,(wrapS 160 (n:Nat) (l.getD n [])).length)∧(sufS l n (k+1)).drop (wrapS 160 (n:Nat) (l.getD n [])).length=sufS l (n+1) k)
 (h2:f v (sufS l (n+1) k)= .ok (u,(sufS l (n+1) k).length)):bindP p f (sufS l n (k+1))= .ok (u,(sufS l n (k+1)).length):=by
 rw [q3u h h2,q0S l n k,Ac]
def nmsP:PR (List Prin):=inP 48 (listP nameP 16)
theorem q5d{p:Prin}(h:vPrin p=true):p.1.length≤4∧(∀x∈p.1,x.size≤32)∧p.2.size≤32:=by
 simp only [vPrin,Aj,decide_eq_true_eq,z1R,szB,q1v] at h;refine ⟨by omega,fun x hx=> ?_,by omega⟩
 obtain ⟨j,hj,rfl⟩:=AH hx;have:=h.2 j hj;rw [q3t hj] at this;simp only [vPart,szB,Aj,decide_eq_true_eq] at this;omega
theorem j1r{p:Prin}(h:vPrin p=true):(prinS p).length≤205:=by
 obtain ⟨h1,h2,h3⟩:=q5d h;obtain ⟨xs,t⟩:=p;have f:=q8S (l:=xs) (k:=xs.length) h1 h2;have g1:=q0v 48 (strsN xs xs.length);have g2:=q0v 27 [t.data.toList];have g3:t.data.toList.length=t.size:=by simp
 simp only [Aq,AB,Ai] at g2;have g4:=q0y 160 0 (elemS 48 (strsN xs xs.length));have g5:=q0y 160 1 (elemS 27 [t.data.toList]);have g6:=q0v 48 [wrapS 160 0 (elemS 48 (strsN xs xs.length)),wrapS 160 1 (elemS 27 [t.data.toList])];simp only [Aq,AB,Ai,Ac] at g6;have h3':t.size≤32:=h3;refine Am g6 ?_;omega
theorem q4m{p:Prin}(h:vPrin p=true):(∀r:List UInt8,nameP (prinE p++r)= .ok (p,(prinE p).length))∧(prinE p).length≤205∧prinE p≠ []:=by
 have hle:=j1r h;obtain ⟨h1,h2,h3⟩:=q5d h;have he:prinE p=prinS p:=by unfold prinE;rw [if_pos h]
 rw [he];obtain ⟨xs,t⟩:=p;have h1':xs.length≤4:=h1;have h3':t.size≤32:=h3;have:=j1g xs t (by omega) (fun x hx=>by have:=h2 x hx;omega) (by omega) h
 exact ⟨this.1,hle,this.2.2⟩
theorem j6N{l:List Prin}(hl:l.length≤16)(hv:∀p∈l,vPrin p=true):(if listS (t:=PrinT) prinE l= [] then l= [] else nmsP (listS (t:=PrinT) prinE l)= .ok (l,(listS (t:=PrinT) prinE l).length))∧(listS (t:=PrinT) prinE l).length≤3300:=by
 have hf:=flat_len prinE 205 l fun x hx=>(q4m (hv x hx)).2.1;have h4:205*l.length≤205*16:=Bd _ hl;refine ⟨z8q (t:=PrinT) (p:=nameP) (w:=prinE) hl (fun x hx=>⟨(q4m (hv x hx)).2.2,(q4m (hv x hx)).1⟩) (by omega),?_⟩
 have:=z4f (t:=PrinT) (w:=prinE) (l:=l) 205 fun x hx=>(q4m (hv x hx)).2.1;exact Am this (by omega)
theorem j2d{t:Int}(h:0≤t∧t≤1099511627776):∃n:Nat,t=n∧n≤1099511627776:=⟨t.toNat,by omega,by omega⟩
end Go.Proofs.YtmapiojgmbgbgaaGreatDoor
namespace Go.Sx
open Go
variable [Ghost] {P:Program} {AQ:Ex→List SV→List SObj→Prop} {k0:Nat} {k:List IT} {t:List SV} {H:List SObj}

theorem z0J{P:Program}{k:List It}(A A' G:List SObj){ty:Ty}{xs:List ty.den}(hk:k0≤A.length)(hA:A=A'.map (SObj.ren (shift A.length (A.length+G.length))))(hb:belH (A.length+1) A'=true)(hbt:SV.belL (A.length+1) t=true)
 (hl:leT (shift A.length (A.length+G.length)) t t)(hs:Sound P AQ ⟨k0,k,t,A'++ [.row ty xs]⟩):Sound P AQ ⟨k0,k,t,A++G++ [.row ty xs]⟩:=by
 intro E r n C a h0 hd;have hlen:A.length=A'.length:=by have:=congrArg List.length hA;rwa [Be] at this
 have hsh:∀h,h<A.length→shift A.length (A.length+G.length) h=h:=fun h hh=>by unfold shift;rw [if_neg (by omega)]
 have hshn:shift A.length (A.length+G.length) A.length=A.length+G.length:=by unfold shift;rw [if_pos rfl]
 have hd':Den E (C.ren (shift A.length (A.length+G.length)) (A'++ [SObj.row ty xs]).length) t (A'++ [.row ty xs]) a:=by
  refine q8V h0.1 hd hl (by rw [Ac,←hlen];exact hbt) (fun h o ho _=> ?_) (q6q fun h o ho=> ?_) (fun h h' o o' ho ho' _ _ e=> ?_) (fun h hh=>hsh h (An hh hk)) (by rw [Ac,←hlen];exact Am hk (CV _ _)) (fun m hm0 hm=> ?_)
  · rcases q0x ho with ⟨hh,ho⟩ | ⟨hh,rfl⟩
    · rw [hsh h (by omega),List.append_assoc,Ah (by omega)]
      have:=congrArg (fun l=>l[h]?) hA;simp only [AS,ho] at this;exact this
    rw [hh,←hlen,hshn,←Ac,Ao (Ag _),Nat.sub_self];rfl
  · rcases q0x ho with ⟨hh,ho⟩ | ⟨hh,rfl⟩
    · rw [Ac,←hlen];exact q3z hb ho
    rfl
  · have h1:=(Af.1 ho).1;have h2:=(Af.1 ho').1;rw [Ac,Bo] at h1 h2;unfold shift at e;split at e<;>split at e<;>omega
  have hm:=hm;have hpos:0<A.length:=An hm0 (Am h0.1 hk);rw [List.append_assoc,Ah hpos] at hm;rw [Ah (by omega)]
  have h1:=congrArg (fun l=>l[0]?) hA;simp only [AS,hm] at h1;cases h2:A'[0]? with
  |none=>rw [h2] at h1;simp at h1
  |some o=>rw [h2] at h1;cases o<;>simp [SObj.ren] at h1;rw [h1]
 exact hs E r n (C.ren (shift A.length (A.length+G.length)) (A'++ [SObj.row ty xs]).length) a h0 hd'
theorem q3f(A A' G:List SObj){ty:Ty}{xs:List ty.den}{td:List IT}(hp:plainT td=true)(hH:H=A++G++ [.row ty xs])(hk:k0≤A.length)(hA:A=A'.map (SObj.ren (shift A.length (A.length+G.length))))(hb:belH (A.length+1) A'=true)(hbt:SV.belL (A.length+1) t=true)
 (hl:leT (shift A.length (A.length+G.length)) t t)(hs:SoundI P AQ ⟨k0,td,t,A'++ [.row ty xs]⟩):SoundI P AQ ⟨k0,td,t,H⟩:=by
 subst hH;exact q0g (fun _ hr=>z0J A A' G hk hA hb hbt hl (q0h hs hr)) hp
end Go.Sx
namespace Go.Sx
open Go
variable {P:Program} {AQ:Ex→List SV→List SObj→Prop} {k0:Nat} {k:List IT} {t:List SV} {H:List SObj}

def CutQ(P:Program)(AQ:Ex→List SV→List SObj→Prop)(k0:Nat)(k:List IT)(T0:List SV):Ex→List SV→List SObj→Prop
 |.normal,t,H=>SoundI P AQ ⟨k0,k,t,H⟩
 |.pan s,_,H=>AQ (.pan s) T0 H
 |_,_,_=>False
theorem j6g{T0:List SV}(h:SoundI P AQ ⟨k0,k,t,H⟩):CutQ P AQ k0 k T0 .normal t H:=h
theorem j5z{T0 t':List SV}{s:SV}(h:AQ (.pan s) T0 H):CutQ P AQ k0 k T0 (.pan s) t' H:=h
def SameBut(ws:List Nat)(t t':List SV):Prop:=t'.length=t.length∧∀i,i ∉ ws→t'[i]?=t[i]?
theorem SameBut.put{ws:List Nat}{t t':List SV}(h:SameBut ws t t'){d:Option Tmp}(hd:∀e,d=some e→e∈ws)(s:SV):SameBut ws t (putT t' d s):=by
 cases d with
 |none=>exact h
 |some e=>exact ⟨by simp [putT,h.1],fun i hi=>by
  have hne:e≠i:=fun e'=>hi (e'▸hd e rfl);simp only [putT];rw [Ar hne]
  exact h.2 i hi⟩
theorem z1e:∀ (ws:List Nat) (t:List SV),(maskT ws t).length=t.length
 | [],t=>rfl
 |d :: ws,t=>by
  show (maskT ws (t.set d .any)).length=_;rw [z1e ws,Bq]
theorem z3W:∀ (ws:List Nat) (t:List SV) (i:Nat) (s:SV),(maskT ws t)[i]?=some s→s= .any∨(i ∉ ws∧t[i]?=some s)
 | [],t,i,s,h=>.inr ⟨by simp,h⟩
 |d :: ws,t,i,s,h=>by
  have h':(maskT ws (t.set d .any))[i]?=some s:=h;rcases z3W ws _ i s h' with rfl| ⟨h1,h2⟩
  · exact .inl rfl
  by_cases e:d=i
  · subst e;rw [List.getElem?_set] at h2;simp at h2;exact .inl h2.2.symm
  rw [Ar e] at h2;exact .inr ⟨by simp [h1];exact fun q=>e q.symm,h2⟩
theorem z9g:∀ {l l':List SV},l.length=l'.length→(∀ (i:Nat) s s',l[i]?=some s→l'[i]?=some s'→s'= .any∨s'=s)→leL l l'
 | [],[],_,_=>trivial
 | [],_ :: _,h,_=>by simp at h
 |_ :: _,[],h,_=>by simp at h
 |s :: l,s' :: l',h,hp=>by
  refine ⟨?_,z9g (by simpa using h) fun i x x' hx hx'=>hp (i+1) x x' (by simpa using hx) (by simpa using hx')⟩
  rcases hp 0 s s' rfl rfl with rfl|rfl
  · exact SV.le_any s
  exact SV.le_refl _
theorem SameBut.le{ws:List Nat}{t t':List SV}(h:SameBut ws t t'):leL t' (maskT ws t):=
 z9g (by rw [z1e,h.1]) fun i s s' hs hs'=>by
  rcases z3W ws t i s' hs' with rfl| ⟨h1,h2⟩
  · exact .inl rfl
  right;rw [h.2 i h1,h2] at hs;cases hs;rfl
theorem j0x{k:List It}{all:Array Oper}{G:List Nat}{kI:List IT}{ws:List Nat}{S:Array Bool}{t0:List SV}(hr:RelT P kI k)(hS:Region.ready .any all S= [])(hW:∀ (i:Nat) o,all[i]?=some o→S.getD i false=true→∀d,o.dst=some d→d∈ws):
 ∀ (fuel:Nat) (listed:Array Bool) (t:List SV) (H:List SObj),SameBut ws t0 t→listed.size=S.size→(∀j,listed.getD j false=true→S.getD j false=true)→AnyV P (CutQ P AQ k0 kI (maskT ws t0)) k0 [] all G fuel listed t H→
  ∀ (E:EnD) (r:Option Nat) (n:Nat) (C:Cx) (a:Act),Fit E r k0→Den E C t H a→wpAnyIn (Fw r) n P .any all (afterT (Fw r) n P E (conc E AQ) k) fuel listed a C.w:=by
 have leaf:∀ {t:List SV} {H:List SObj},Sound P (CutQ P AQ k0 kI (maskT ws t0)) ⟨k0,[],t,H⟩→∀ (E:EnD) (r:Option Nat) (n:Nat) (C:Cx) (a:Act),Fit E r k0→Den E C t H a→wpT (Fw r) n P E (conc E AQ) k a C.w:=by
  intro t H h E r n C a h0 hd;have h1:=h E r n C a h0 hd;simp only [wpT] at h1;obtain ⟨C',t',H',h2,h3,h4⟩:=h1;rw [←h3];exact q0h (h2:SoundI P AQ ⟨k0,kI,t',H'⟩) hr E r n C' a h0 h4
 intro fuel;induction fuel with
 |zero=>exact fun listed t H _ _ _ h E r n C a h0 hd=>⟨h.1,leaf h.2 E r n C a h0 hd⟩
 |succ fuel ih=>
  intro listed t H hb hsz hsub h E r n C a h0 hd;refine ⟨fun h9=>leaf (h.1 h9) E r n C a h0 hd,fun i hi=> ?_⟩;obtain ⟨o,ho,h1⟩:=h.2 i hi;obtain ⟨hun,o',ho',hall⟩:=mem_ready.1 hi;have hlt:i<S.size:=by
   rcases AC i listed.size with q|q
   · omega
   simp [Bt q] at hun
  have hiS:S.getD i false=true:=by
   cases hq:S.getD i false with
   |true=>rfl
   |false=>
    have:i∈Region.ready .any all S:=mem_ready.2 ⟨by simp [hlt] at hq⊢;exact hq,o',ho',fun e he hb'=>hsub _ (hall e he hb')⟩
    rw [hS] at this;cases this
  have hwd:∀d,o.dst=some d→d∈ws:=hW i o ho hiS;have hsub':∀j,(listed.setIfInBounds i true).getD j false=true→S.getD j false=true:=fun j hj=>by
   by_cases e:i=j
   · subst e;exact hiS
   rw [getD_set_ne false e] at hj;exact hsub j hj
  have hsz':(listed.setIfInBounds i true).size=S.size:=by simpa using hsz
  unfold wpOpIn;simp only [ho];rcases h1 with ⟨hw,hop⟩ | ⟨hw,hk⟩
  · rw [if_pos (q2G hd.tmps hw)];refine hop E C r n a _ _ hd.wd hd.defs.2 (fun x _=>q2P hd.tmps x) ?_ ?_
    · intro s v H' C' hk hw' hx hs;exact ih _ _ _ (hb.put hwd s) hsz' hsub' hk.2 E r n C' _ h0 (q4A hd hw' hx hs)
    intro s v H' C' hk hw' hx hs;exact ⟨C',maskT ws t0,H',s,v,hk,rfl,hs,rfl,hw',hx.ext hd.ext,(DefOk.stp hx hd.defs).fin,.inr (q3v hb.le (q0j hx.evo hd.tmps))⟩
  rw [if_neg (by rw [q2G hd.tmps hw];simp)]
  exact ⟨fun f _=>q6g r f,ih _ _ _ (hb.put hwd _) hsz' hsub' hk.2 E r n C _ h0 (q4A hd hd.wd (.of (Ext.refl _ _)) (by rw [SV.den];rfl))⟩
theorem z1E{all:Array Oper}:∀ (fuel:Nat) (listed:Array Bool) (l:List (Bool×OpI)),planL P all fuel listed=some l→
 ∃S:Array Bool,Region.ready .any all S= []∧S.size=listed.size∧(∀j,listed.getD j false=true→S.getD j false=true)∧∀i,S.getD i false=true→listed.getD i false=true∨∃o,all[i]?=some o∧∀d,o.dst=some d→d∈IC.wr (.drw l)
 |0,listed,l,h=>by
  unfold planL at h;split at h
  · rename_i he;exact ⟨listed,by simpa using he,rfl,fun _ h=>h,fun _ h=>.inl h⟩
  cases h
 |n+1,listed,l,h=>by
  unfold planL at h;split at h
  · rename_i he;exact ⟨listed,by simpa using he,rfl,fun _ h=>h,fun _ h=>.inl h⟩
  split at h
  · rename_i i fl hch;split at h
    · rename_i o ho;split at h
      · rename_i io hco;split at h
        · rename_i l' hl';split at h
          · cases h;obtain ⟨S,h1,h2,h3,h4⟩:=z1E n _ l' hl';refine ⟨S,h1,by simpa using h2,fun j hj=>h3 j (getD_set_true hj),fun j hj=> ?_⟩
            rcases h4 j hj with q| ⟨o',q1,q2⟩
            · by_cases e:i=j
              · subst e;refine .inr ⟨o,ho,fun d hd=> ?_⟩;have hio:=(q0I hco).2;simp only [IC.wr,B4,B1];left;unfold OpI.wr;split<;>simp [hio,hd]
              rw [getD_set_ne false e] at q;exact .inl q
            refine .inr ⟨o',q1,fun d hd=> ?_⟩;have:=q2 d hd;simp only [IC.wr,B4,B1] at this⊢;exact .inr this
          cases h
        cases h
      cases h
    cases h
  cases h
theorem j4w{l:List (Bool×OpI)}(G:List Nat)(hm:P.follows .mixedOrders=true)(h:SoundI P (CutQ P AQ k0 k (maskT (IC.wr (.drw l)) t)) ⟨k0,[.dops G l],t,H⟩):SoundI P AQ ⟨k0,.ic (.drw l) :: k,t,H⟩:=q0g (fun td' hr=>by
 obtain ⟨c',r,rfl,hc,hr⟩:=hr;obtain ⟨id,all,rfl,hl⟩:=q0U hc;obtain ⟨S,h1,h2,h3,h4⟩:=z1E _ _ _ hl;intro E r' n C a h0 hd;simp only [wpT];have hd':Den E C.drew t H a:=⟨q3G hd.wd,hd.ext.trans (q2z C H),DefOk.next (q2z C H) hd.defs,q0j (q2D C) hd.tmps⟩
 have hno:∀j,(Array.replicate all.size false).getD j false=true→False:=fun j hj=>by
  rcases AC j all.size with q|q
  · simp [q] at hj
  simp [q] at hj
 refine wpIn_region_any hm (j0x hr h1 (fun i o ho hi d hd=> ?_) _ _ _ _ ⟨rfl,fun _ _=>rfl⟩ h2.symm h3 (h all _ _ [] hl rfl) E r' n C.drew a h0 hd');rcases h4 i hi with q| ⟨o',q1,q2⟩
 · exact (hno i q).elim
 rw [ho] at q1;cases q1
 exact q2 d hd) rfl
end Go.Sx
namespace Go.Sx
open Go

def ZInv(q:Nat→Prop)(w0:World)(C:Cx)(H:List SObj):Prop:=∀b,q b→b<C.w.heap.size∧¬C.I b∧¬OwnB C H b∧C.w.heap[b]?=w0.heap[b]?

theorem z7d{E:En}{C:Cx}{H:List SObj}(hx:Ext E C H){b:Nat}(h1:b<E.C.w.heap.size)(h2:¬E.C.I b)(h3:¬OwnB E.C E.H b):b<C.w.heap.size∧¬C.I b∧¬OwnB C H b∧C.w.heap[b]?=E.C.w.heap[b]?:=by
 refine ⟨An h1 hx.size,fun hi=> ?_,fun ho=> ?_,hx.frame b h1 h3⟩
 · rcases hx.immNew b hi with g| ⟨g|g,_⟩
   · exact h2 g
   · exact absurd h1 (AU.2 g)
   exact h3 g
 rcases hx.ownNew b ho with g|g
 · exact absurd h1 (AU.2 g)
 exact h3 g

@[reducible] def frzG(q:Nat→Prop)(w0:World):Ghost where
 inv0:=fun _ C H=>ZInv q w0 C H
 fin:=fun E _ _ ds=>ds=E.base∧True
 toFin0:=fun _ _=>⟨rfl,trivial⟩
 next0:=fun hx h b hb=>by
  obtain ⟨h1,h2,h3,h4⟩:=h b hb;obtain ⟨g1,g2,g3,g4⟩:=z7d hx h1 h2 h3;exact ⟨g1,g2,g3,g4.trans h4⟩
 same0:=fun _ e _ hi ho _ _ h b hb=>by
  obtain ⟨h1,h2,h3,h4⟩:=h b hb;rw [e];exact ⟨h1,fun x=>(hi b x).elim h2 h3,fun x=>h3 (ho b x),h4⟩

def simV(u v:Value):Prop:=v=u∨(∃k n m,u= .int k n∧v= .int k m)∨∃s s',u= .string s∧v= .string s'∧s'.size≤140737488355328
def simB(o o':Option Obj):Prop:=o'=o∨∃ (vs vs':List Value) (T:TypeId) (fz:Nat×Nat),o=some (.cells vs.toArray T fz)∧o'=some (.cells vs'.toArray T fz)∧vs'.length=vs.length∧∀ (i:Nat) u v,vs[i]?=some u→vs'[i]?=some v→simV u v
theorem simV.trans{u v w:Value}(h:simV u v)(k:simV v w):simV u w:=by
 rcases h with rfl| ⟨k',n,m,rfl,rfl⟩ | ⟨s,s',rfl,rfl,h1⟩
 · exact k
 · rcases k with rfl| ⟨k2,n2,m2,h1,rfl⟩ | ⟨s,s',h1,_⟩
   · exact .inr (.inl ⟨_,_,_,rfl,rfl⟩)
   · cases h1;exact .inr (.inl ⟨_,_,_,rfl,rfl⟩)
   cases h1
 rcases k with rfl| ⟨k2,n2,m2,h1,rfl⟩ | ⟨s2,s3,h2,rfl,h3⟩
 · exact .inr (.inr ⟨_,_,rfl,rfl,h1⟩)
 · cases h1
 cases h2;exact .inr (.inr ⟨_,_,rfl,rfl,h3⟩)
def SInv(q:Nat→Prop)(w0:World)(E:En)(C:Cx)(H:List SObj):Prop:=
 ∀b,q b→((E.C.w.heap.size≤b∨OwnB E.C E.H b)∧¬TBlk b)∧b<C.w.heap.size∧¬C.I b∧¬OwnB C H b∧Unf C.w b∧simB w0.heap[b]? C.w.heap[b]?

@[reducible] def scrG(q:Nat→Prop)(w0:World):Ghost where
 inv0:=fun E C H=>SInv q w0 E.toEn C H
 fin:=fun E C H ds=>ds=E.base∧SInv q w0 E.toEn C H
 toFin0:=fun _ h=>⟨rfl,h⟩
 next0:=fun hx h b hb=>by
  obtain ⟨h0,h1,h2,h3,h4,h5⟩:=h b hb;obtain ⟨g1,g2,g3,g4⟩:=z7d hx h1 h2 h3;refine ⟨h0,g1,g2,g3,h4.keep g4,?_⟩;have g4':=g4;simp only at g4';rw [g4'];exact h5
 same0:=fun _ e _ hi ho _ _ h b hb=>by
  obtain ⟨h0,h1,h2,h3,h4,h5⟩:=h b hb;rw [e];exact ⟨h0,h1,fun x=>(hi b x).elim h2 h3,fun x=>h3 (ho b x),h4,h5⟩

def At(q:Nat→Prop)(w0:World)(t:Ty)(x:t.den)(b o:Nat):Prop:=q b∧∃vs,t.rel q w0 x vs∧∀j u,vs[j]?=some u→w0.cell? ⟨b,o+j,none⟩=some u
theorem At.fst{q:Nat→Prop}{w0:World}{s t:Ty}{x:(Ty.prod s t).den}{b o:Nat}(h:At q w0 (.prod s t) x b o):At q w0 s x.1 b o:=by
 obtain ⟨hq,vs,⟨v1,v2,rfl,h1,h2⟩,hc⟩:=h;exact ⟨hq,v1,h1,fun j u hj=>hc j u (by rw [Ah (Af.1 hj).1];exact hj)⟩
theorem At.snd{q:Nat→Prop}{w0:World}{s t:Ty}{x:(Ty.prod s t).den}{b o:Nat}(h:At q w0 (.prod s t) x b o):At q w0 t x.2 b (o+s.size):=by
 obtain ⟨hq,vs,⟨v1,v2,rfl,h1,h2⟩,hc⟩:=h;refine ⟨hq,v2,h2,fun j u hj=> ?_⟩;rw [Nat.add_assoc];refine hc (s.size+j) u ?_;rw [←s.rel_size _ _ h1,Ao (CV _ _),Co];exact hj
def Sl(q:Nat→Prop)(w0:World)(t:Ty)(xs:List t.den)(v:Value):Prop:=(Ty.slice t).rel q w0 xs [v]
theorem Sl.out{q:Nat→Prop}{w0:World}{t:Ty}{xs:List t.den}{v:Value}(h:Sl q w0 t xs v):
 ∃A c,v= .slice A xs.length c∧(xs= []∨∃b o,A=some ⟨b,o,none⟩∧∀i x,xs[i]?=some x→At q w0 t x b (o+i*t.size)):=by
 obtain ⟨A,n,c,e,rfl,_,_,h⟩:=h;simp only [List.cons.injEq,and_true] at e;refine ⟨A,c,e,orMap h id ?_⟩;rintro ⟨b,o,rfl,hq,h⟩;exact ⟨b,o,rfl,fun i x hx=>⟨hq,h i x hx⟩⟩
theorem At.sl{q:Nat→Prop}{w0:World}{t:Ty}{xs:List t.den}{b o:Nat}(h:At q w0 (.slice t) xs b o):∃v,Sl q w0 t xs v∧w0.cell? ⟨b,o,none⟩=some v:=by
 obtain ⟨hq,vs,hr,hc⟩:=h;obtain ⟨A,n,c,rfl,_⟩:=id hr;exact ⟨_,hr,hc 0 _ rfl⟩
theorem At.int{q:Nat→Prop}{w0:World}{k:IntKind}{x:(Ty.int k).den}{b o:Nat}(h:At q w0 (.int k) x b o):w0.cell? ⟨b,o,none⟩=some (.int k x):=by
 obtain ⟨hq,vs,rfl,hc⟩:=h;exact hc 0 _ rfl
theorem At.u8{q:Nat→Prop}{w0:World}{x:Ty.u8.den}{b o:Nat}(h:At q w0 .u8 x b o):w0.cell? ⟨b,o,none⟩=some (.int .u8 (UInt8.toNat x)):=by
 obtain ⟨hq,vs,rfl,hc⟩:=h;exact hc 0 _ rfl
theorem At.str{q:Nat→Prop}{w0:World}{x:Ty.str.den}{b o:Nat}(h:At q w0 .str x b o):w0.cell? ⟨b,o,none⟩=some (.string x):=by
 obtain ⟨hq,vs,⟨rfl,_⟩,hc⟩:=h;exact hc 0 _ rfl

variable {P:Program} {AQ:Ex→List SV→List SObj→Prop}
theorem j6n{C:Cx}{H:List SObj}{w':World}(hw:Wd C H)(hs:w'.heap.size=C.w.heap.size)(hb:∀b,C.I b∨OwnB C H b→w'.heap[b]?=C.w.heap[b]?)(hz:∀b m,World.bsize C.w b=some m→World.bsize w' b=some m):
 Wd {C with w:=w'} H∧Evo C {C with w:=w'}:=by
 have he:Evo C {C with w:=w'}:=⟨Ag _,fun _ _=>rfl,fun b hI=>⟨hI,hb b (.inl hI)⟩,hz⟩
 refine ⟨⟨hw.n,fun h o ho=> ?_,fun b hb'=> ?_,hw.inj,fun b hI=> ?_⟩,he⟩
 · by_cases hl:o.live=true
   · exact q0H (C':={C with w:=w'}) he.I h rfl (fun b hb'=>hb b (.inr ⟨h,o,ho,hl,hb'⟩)) (q0j he) (hw.obj h o ho)
   cases o<;>first|trivial|simp [SObj.live] at hl
 · have:=hw.own b hb';exact ⟨this.1,by rw [hs];exact this.2⟩
 rw [hs];exact hw.imm b hI

end Go.Sx
namespace Go.Sx
open Go

variable {P:Program} {AQ:Ex→List SV→List SObj→Prop} {k0:Nat} {k:List IT} {t:List SV} {H:List SObj}

theorem j5I{f:FuncId}{fi:FI}(h:finfo P f=some fi):∃fn c,P.funcs[f]?=some fn∧fn.body=some c∧comp P c=some fi.code∧fn.ntmps=fi.ntmps∧fn.results.toList=fi.results∧enters P f=true:=by
 unfold finfo at h;split at h
 · rename_i fn hf;split at h
   · rename_i c hb;split at h
     · rename_i ic hc;split at h
       · cases h
       rename_i hn;cases h;exact ⟨fn,c,hf,hb,hc,rfl,rfl,by simp [enters,hf,hb];simpa using hn⟩
     cases h
   cases h
 cases h
def VCallZ(q:Nat→Prop)(w0:World)(P:Program)(f:FuncId)(args:List SV)(H:List SObj)(K:Out→List SObj→Prop):Prop:=
 ∀ (C:Cx) (vs:List Value),Wd C H→TabT C H→ZInv q w0 C H→SV.denL C args vs→Calls P f vs.toArray C.w fun e w'=>∃o H' C',K o H'∧C'.w=w'∧Wd C' H'∧Ext ⟨C,H⟩ C' H'∧outDen C' o e
theorem VCallZ.g{q:Nat→Prop}{w0:World}{f:FuncId}{args:List SV}{K:Out→List SObj→Prop}(h:VCallZ q w0 P f args H K): @VCallG (frzG q w0) P f args H K:=
 fun E C vs hw hg hv=>(h C vs hw hg.1.tab hg.2 hv).mono fun _ _ ⟨o,H',C',k,e,w,x,r⟩=>⟨o,H',C',k,e,w, @Stp.of (frzG q w0) E C C' H H' x,r⟩
theorem ZInv.nil{q:Nat→Prop}{w0:World}{C:Cx}(h:ZInv q w0 C H):ZInv q w0 {C with n:=0} []:=fun b hb=>by
 obtain ⟨h1,h2,h3,h4⟩:=h b hb;exact ⟨h1,h2,fun ⟨i,o,ho,_⟩=>by simp at ho,h4⟩
def Ty.flat:Ty→Bool
 |.slice _=>false
 |.prod a b=>a.flat&& b.flat
 |.arr _ t=>t.flat
 |.ptr _=>false
 |.clo _ _=>false
 |.clp _ _=>false
 |.mbs _=>false
 |_=>true
def RowK(ty:Ty)(xs:List ty.den):Out→List SObj→Prop:=fun o H'=>(xs= []∧o= .ret (.raw (.slice none 0 0))∧H'= [])∨(o= .ret (.bld 0 ty xs.length)∧H'= [.row ty xs])
theorem z0c{ty:Ty}{xs:List ty.den}{H':List SObj}{h n:Nat}(hH:H'[h]?=some (.row ty xs))(hn:n=xs.length):Weak 0 (RowK ty xs) (.ret (.bld h ty n)) H':=by
 subst hn;exact ⟨fun _=>h,.bld 0 ty xs.length,.bld 0 ty xs.length,[.row ty xs],⟨⟨rfl,trivial⟩,⟨hH,trivial⟩,rfl,rfl,rfl,rfl,Ak _,fun _ h0=>absurd h0 (CB 0)⟩,.inl (.inl rfl),.inr ⟨rfl,rfl⟩⟩
theorem Ty.cells_rel{C:Cx}:∀ (t:Ty) (x:t.den) (vs:List Value),t.known=true→t.ok x→SV.denL C (t.cells x) vs→t.rel C.I C.w x vs
 |.u8,_,_,_,_,h=>by simp only [Ty.cells,SV.denL,SV.den] at h;obtain ⟨v,us,rfl,rfl,rfl⟩:=h;rfl
 |.int _,_,_,_,_,h=>by simp only [Ty.cells,SV.denL,SV.den] at h;obtain ⟨v,us,rfl,rfl,rfl⟩:=h;rfl
 |.bool,_,_,_,_,h=>by simp only [Ty.cells,SV.denL,SV.den] at h;obtain ⟨v,us,rfl,rfl,rfl⟩:=h;rfl
 |.str,_,_,_,ho,h=>by simp only [Ty.cells,SV.denL,SV.den] at h;obtain ⟨v,us,rfl,rfl,rfl⟩:=h;exact ⟨rfl,ho⟩
 |.slice t,_,_,_,_,h=>by simp only [Ty.cells,SV.denL,SV.den] at h;obtain ⟨v,us,rfl,h,rfl⟩:=h;exact h
 |.prod a b,x,vs,hk,ho,h=>by
  simp only [Ty.known,Aj] at hk;obtain ⟨v1,v2,rfl,h1,h2⟩:=q0B.1 h;exact ⟨v1,v2,rfl,a.cells_rel _ _ hk.1 ho.1 h1,b.cells_rel _ _ hk.2 ho.2 h2⟩
 |.unit,_,_,_,_,h=>by simpa [Ty.cells,SV.denL,Ty.rel] using h
 |.arr n t,xs,vs,hk,ho,h=>by
  replace hk:t.known=true:=hk;obtain ⟨hn,ho⟩:=ho;refine ⟨hn,?_⟩;simp only [Ty.cells] at h;rw [←hn] at h;clear hn;have key:∀ (ys:List t.den) (vs:List Value),(∀x∈ys,t.ok x)→SV.denL C ((List.range ys.length).flatMap fun i=>t.cells (ys.getD i t.dflt)) vs→∃vss:List (List Value),vs=vss.flatten∧vss.length=ys.length∧∀ (i:Nat) x us,ys[i]?=some x→vss[i]?=some us→t.rel C.I C.w x us:=by
   intro ys;induction ys with
   |nil=>intro vs _ h;exact ⟨[],by simpa [q0C] using h,rfl,fun i x us hx=>by simp at hx⟩
   |cons y ys ih=>
    intro vs ho h;rw [AF,BX,B4,List.flatMap_map] at h;obtain ⟨v1,v2,rfl,h1,h2⟩:=q0B.1 h;obtain ⟨vss,rfl,hl,hr⟩:=ih v2 (fun x hx=>ho x (A0 _ hx)) h2;refine ⟨v1 :: vss,rfl,by simp [hl],fun i x us hx hu=> ?_⟩
    cases i with
    |zero=>simp at hx hu;subst hx hu;exact t.cells_rel _ _ hk (ho _ (Cm ..)) h1
    |succ i=>exact hr i x us (by simpa using hx) (by simpa using hu)
  exact key xs vs ho h
 |.ptr t,x,vs,_,ho,h=>by
  cases x with
  |none=>
   simp only [Ty.cells,SV.denL,SV.den] at h;obtain ⟨v,us,rfl,rfl,rfl⟩:=h;exact .inl ⟨rfl,rfl⟩
  |some x=>
   simp only [Ty.cells,SV.denL,SV.den] at h;obtain ⟨v,us,rfl,⟨b,off,ws,rfl,hI,hr,hc⟩,rfl⟩:=h;exact .inr ⟨x,b,off,ws,rfl,by rw [AM],hI,hr,hc⟩
 |.clo f t,x,vs,hk,ho,h=>by
  simp only [Ty.cells,SV.denL,SV.den] at h;obtain ⟨v,us,rfl,⟨v1,v2,rfl,⟨u,ws,rfl,⟨zs,rfl,hz⟩,rfl⟩,rfl⟩,rfl⟩:=h;exact ⟨zs,rfl,t.cells_rel _ _ hk ho hz⟩
 |.clp f t,x,vs,hk,ho,h=>by
  simp only [Ty.cells,SV.denL,SV.den] at h;obtain ⟨v,us,rfl,⟨v1,v2,rfl,rfl,⟨u,ws,rfl,⟨b,off,zs,rfl,hI,hr,hc⟩,rfl⟩⟩,rfl⟩:=h;exact ⟨b,off,zs,by rw [AM],hI,hr,hc⟩
 |.mbs _,_,_,hk,_,_=>by cases hk

end Go.Sx
namespace Go.Sx
open Go
variable {P:Program} {AQ:Ex→List SV→List SObj→Prop} {k0:Nat} {k:List IT} {t:List SV} {H:List SObj}

theorem q6y[Ghost]{f:FuncId}{args:List SV}{ty:Ty}{xs:List ty.den}{d:Option Tmp}{td:List IT}(hp:VC P f args [] (RowK ty xs))(hb:SV.belL 0 args=true)(hargs:args=SV.renL (sig [] H.length) args)
 (h0:xs= []→SoundI P AQ ⟨k0,td,putT t d (.raw (.slice none 0 0)),H⟩)(h:SoundI P AQ ⟨k0,td,putT t d (.bld H.length ty xs.length),H++ [.row ty xs]⟩):CallI P AQ f args d ⟨k0,td,t,H⟩:=by
 refine ⟨hp.1,VCall.g ?_⟩;rw [hargs];refine VCall.fr (H0:=[]) [] (by simp) trivial hb rfl hp.2 ?_
 rintro o H' _ (⟨e,rfl,rfl⟩ | ⟨rfl,rfl⟩)
 · simp only [mgA,Cs,Ai];exact h0 e
 exact h
theorem q4g[Ghost](d h:Nat){T:TypeId}{ty:Ty}{x:ty.den}{td:List IT}(hp:plainT td=true)(hok:ty.ok x)(hH:H[h]?=some (.cells T (ty.cells x)))(hd:t[d]?=some (.ptr h 0))(hs:SoundI P AQ ⟨k0,td,t.set d (.iptr ty x 0),H.set h .dead⟩)(hkn:ty.known=true:=by rfl):
 SoundI P AQ ⟨k0,td,t,H⟩:=q0g (fun td' hr E r n C a h0 hden=>by
 have h1:=q0h hs hr;obtain ⟨b,vs,hb,hcell,hvs⟩:=hden.wd.obj h _ hH;have hown:OwnB C H b:=⟨h,_,hH,rfl,hb⟩;obtain ⟨hnI,hlt⟩:=hden.wd.own b hown;have hoff:∀b',OwnB C (H.set h .dead) b'→OwnB C H b'∧b'≠b:=by
  rintro b' ⟨i,o,ho,hl,hb'⟩;by_cases e:h=i
  · subst e;rw [Aw (Af.1 hH).1] at ho;cases ho;simp [SObj.live] at hl
  rw [Ar e] at ho;refine ⟨⟨i,o,ho,hl,hb'⟩,fun e'=> ?_⟩;subst e';exact e (hden.wd.inj h i _ o b' hH ho rfl hl hb hb')
 let C':Cx:={C with I:=fun b'=>C.I b'∨b'=b}
 have he:Evo C C':=⟨Ag _,fun _ _=>rfl,fun b' hb'=>⟨.inl hb',rfl⟩,fun _ _ hm=>hm⟩;have hw:Wd C' (H.set h .dead):=by
  refine ⟨by simp [C',hden.wd.n],fun i o ho=> ?_,fun b' hb'=> ?_,fun i i' o o' b' h1 h2 h3 h4 h5 h6=> ?_,fun b' hb'=> ?_⟩
  · by_cases e:h=i
    · subst e;rw [Aw (Af.1 hH).1] at ho;cases ho;trivial
    rw [Ar e] at ho;exact q0H he.I i rfl (fun _ _=>rfl) (q0j he) (hden.wd.obj i o ho)
  · obtain ⟨g1,g2⟩:=hoff b' hb';have:=hden.wd.own b' g1;exact ⟨fun hi=>hi.elim this.1 g2,this.2⟩
  · have key:∀ {i:Nat} {o:SObj},(H.set h .dead)[i]?=some o→o.live=true→H[i]?=some o:=fun {i o} ho hl=>by
     by_cases e:h=i
     · subst e;rw [Aw (Af.1 hH).1] at ho;cases ho;simp [SObj.live] at hl
     rwa [Ar e] at ho
    exact hden.wd.inj i i' o o' b' (key h1 h3) (key h2 h4) h3 h4 h5 h6
  exact hb'.elim (hden.wd.imm b') fun e=>e▸hlt
 have hmk:∀n,H[0]?=some (.mark n)→(H.set h .dead)[0]?=some (.mark n):=fun n hn=>q4j hH rfl hn;have hx:Ext E.toEn C' (H.set h .dead):=by
  refine ⟨hden.ext.evo.trans he,hden.ext.size,hden.ext.os,hden.ext.tape,hden.ext.output,hden.ext.frame,fun b' hb'=> ?_,fun b' hb'=>hden.ext.ownNew b' (hoff b' hb').1,fun n h0 hn=>hmk n (hden.ext.keep0 n h0 hn)⟩;rcases hb' with hb'|rfl
  · exact hden.ext.immNew b' hb'
  exact .inr ⟨hden.ext.ownNew b' hown,q4S (C:=C) hden.wd hown⟩
 have hg:Ghost.inv E C' (H.set h .dead):=Ghost.same (C:=C) (C':=C') hden.wd rfl (fun b' hb'=>.inl hb') (fun b' (hb':C.I b'∨b'=b)=>hb'.elim .inl fun e=>.inr (by subst e;exact hown)) (fun b' hb'=>(hoff b' hb').1) (fun n _ hn=>hmk n hn) hden.ext.evo.n hden.defs.2
 refine h1 E r n C' a h0 ⟨hw,hx,⟨hden.defs.1,hg⟩,?_⟩;have ht:=q0j he hden.tmps;obtain ⟨v,hv,hdv⟩:=q2C ht hd;rw [SV.den] at hdv;obtain ⟨_,b',hb',rfl⟩:=hdv;have e:b'=b:=by have:C.ρ h=some b':=hb';rw [hb] at this;exact (Option.some.inj this).symm
 subst e;have hi:(SV.iptr ty x 0).den C' (.pointer (some ⟨b',0,none⟩)):=by
  rw [SV.den];exact ⟨b',0,vs,rfl,.inr rfl,ty.cells_rel _ _ hkn hok (q0j he hvs),fun j u hj=>by rw [Ab];show C.w.cell? _=_;rw [q0n hcell];exact hj⟩
 have h9:=q3I (i:=d) ht hi;have e9:a.tmps.toList.set d (.pointer (some ⟨b',0,none⟩))=a.tmps.toList:=by
  apply Bm;intro j;by_cases ej:d=j
  · subst ej;rw [Aw (Af.1 hv).1,hv]
  rw [Ar ej]
 rwa [e9] at h9) hp
end Go.Sx
namespace Go.Sx
open Go

variable {P:Program} {AQ:Ex→List SV→List SObj→Prop} {k0:Nat} {k:List IT} {t:List SV} {H:List SObj}

end Go.Sx
namespace Go.Proofs.YtmapiojgmbgbgaaGreatDoor
open Go Go.Sx Go.Proofs
set_option maxRecDepth 100000
set_option maxHeartbeats 4000000
abbrev PreT:Ty:=.prod I64 (.slice .u8)
abbrev Pre:=PreT.den
def mIn(lo hi v:Int):Bool:=decide (lo≤v) && decide (v≤hi)
def vTime(t:Int):Bool:=mIn 0 1099511627776 t
def ErrP{α:Type}(p:PR α):Prop:=∀r e,p r= .error e→e≠0
theorem q6r{α:Type}{tag:UInt8}{dec:List UInt8→Option α}:ErrP (rdP tag dec):=fun _ _ h=>q6L h
theorem z3r{α:Type}{tag:UInt8}{p:PR α}(hp:ErrP p):ErrP (inP tag p):=fun r e h=>by
 rcases q4b (tag:=tag) (p:=p) (r:=r) with ⟨h1,e'⟩ | ⟨_,e1,h2,e'⟩ | ⟨_,_,_,_,_,e'⟩ | ⟨_,_,_,_,_,e'⟩ <;>rw [e'] at h<;>cases h
 · exact h1
 · exact hp _ _ h2
 decide
theorem q4f{α:Type}{n:Nat}{p:PR α}(hp:ErrP p):ErrP (needP n p):=fun r e h=>by
 cases hb:nextB n r with
 |false=>
  rw [q5a hb] at h;split at h<;>cases h<;>decide
 |true=>rw [q5G hb] at h;exact z3r hp r e h
theorem q3p{α β:Type}{p:PR α}{f:α→PR β}(hp:ErrP p)(hf:∀v,ErrP (f v)):ErrP (bindP p f):=fun r e h=>by
 unfold bindP at h;cases h1:p r with
 |error e1=>rw [h1] at h;cases h;exact hp r _ h1
 |ok y=>
  obtain ⟨u,k⟩:=y;rw [h1] at h;simp only at h;cases h2:f u (r.drop k) with
  |error e2=>rw [h2] at h;cases h;exact hf u _ _ h2
  |ok z=>obtain ⟨w,l⟩:=z;rw [h2] at h;cases h
theorem z3D{α:Type}{v:α}:ErrP (retP v):=fun _ _ h=>by cases h
theorem z9f:ErrP keyP:=z3r (q3p (q4f q6r) fun _=>q3p (q4f q6r) fun _=>q3p (q4f q6r) fun _=>z3D)
def EffR(P:Program){α:Type}(f:FuncId)(args:List SV)(b:List UInt8)(n:Nat)(res:α→SV)(z:SV):Except Nat (α×Nat)→Prop
 |.ok (v,k)=>PE P f args [rdr b n] (.ret (.tup [res v,rI 0])) [rdr b (n+k)]
 |.error e=>PE P f args [rdr b n] (.ret (.tup [z,rI e])) [rdr b n]
theorem q7Y{P:Program}{α:Type}{f:FuncId}{args:List SV}{b:List UInt8}{n:Nat}{res:α→SV}{z:SV}{x:Except Nat (α×Nat)}{v:α}{k:Nat}(h:EffR P f args b n res z x)(hx:x= .ok (v,k)):PE P f args [rdr b n] (.ret (.tup [res v,rI 0])) [rdr b (n+k)]:=by rw [hx] at h;exact h
theorem q7H{P:Program}{α:Type}{f:FuncId}{args:List SV}{b:List UInt8}{n:Nat}{res:α→SV}{z:SV}{x:Except Nat (α×Nat)}{e:Nat}(h:EffR P f args b n res z x)(hx:x= .error e):PE P f args [rdr b n] (.ret (.tup [z,rI e])) [rdr b n]:=by rw [hx] at h;exact h
abbrev zKey:SV:=.agg [rI 0,rI 0,.isl .u8 []]
def FR(i:Nat)(b:List UInt8)(n:Nat):Except Nat (List UInt8×Nat)→Prop
 |.ok (l,k)=>PE Tryz.prog 180 [.ptr 0 0,rI i,.fn 163 [] []] [rdr b n] (.ret (.ptr 2 0)) [rdr b (n+k),.dead,rdr l 0]
 |.error e=>PE Tryz.prog 180 [.ptr 0 0,rI i,.fn 163 [] []] [rdr b n] (.pan (errV e)) [.dead]
theorem j5g(i:Nat)(hi:i≤30)(b:List UInt8)(n:Nat)(hn:n≤b.length)(hb:b.length≤1099511627776):FR i b n (needP i (rdP 48 decOct) (b.drop n)):=by
 cases h:nextB i (b.drop n) with
 |false=>
  rw [q5a h,Al];have hs:=q6u i hi b n hn h;have hl:=q2S b n hn;generalize b.length-n=q at*;refine q0b (by simp) ?_
  refine rQ fi180 ?_;refine eQ [0] (hs) ?_;refine eQ [0] (hl) ?_;by_cases hq:q=0
  · simp [hq]
  simp [hq]
 |true=>
  rw [q5G h];by_cases h1:takeE (tagB i) (b.drop n)=0
  · rw [z5S h1];have hs:=q4K i hi b n hn hb h h1;have hc:=q1u (n:=n) hb;generalize takeC (b.drop n)=c at*;generalize takeN (b.drop n)=N at*;by_cases h2:takeE 48 c=0
    · have hx:rdP 48 decOct c= .ok (takeC c,takeN c):=by unfold rdP;rw [if_pos h2];rfl
      rw [hx];have hr:=q5T c 0 (Ak _) hc (by rw [As];exact h2)
      rw [As,Ab] at hr;have hm:=q6S h2;generalize takeC c=l at*;generalize takeN c=m at*;have hl:=q2S c m hm;simp only [closeP];by_cases hml:m<c.length
      · rw [if_pos hml];refine q0b (by simp) ?_
        refine rQ fi180 ?_;refine eQ [0] (hs) ?_;refine eQ [1] (hr) ?_;refine eQ [2] (q7G l 0) ?_;refine eQ [1] (hl) ?_;exact ⟨fun _=>rfl,fun q=>absurd (by omega) q⟩
      rw [if_neg hml];refine q0b (by simp) ?_
      refine rQ fi180 ?_;refine eQ [0] (hs) ?_;refine eQ [1] (hr) ?_;refine eQ [2] (q7G l 0) ?_;refine eQ [1] (hl) ?_;exact ⟨fun q=>absurd q (by omega),fun _=>trivial⟩
    have hx:rdP 48 decOct c= .error (takeE 48 c):=by unfold rdP;rw [if_neg h2]
    rw [hx];have hr:=z0F c 0 (Ak _) hc (by rw [As];exact h2)
    rw [As] at hr;generalize takeE 48 c=e at*;refine q0b (by simp) ?_
    refine rQ fi180 ?_;refine eQ [0] (hs) ?_;refine eQ [1] (hr) ?_;refine effP [] (q6H e h2) ?_;trivial
  rw [z5X h1];have hs:=q7V i hi b n hn hb h h1;generalize takeE (tagB i) (b.drop n)=e at*;refine q0b (by simp) ?_
  refine rQ fi180 ?_;refine eQ [0] (hs) ?_;exact ⟨fun _=>trivial,fun q=>absurd (by omega) h1⟩
theorem z6U(b:List UInt8)(n:Nat):PE Tryz.prog 177 [.ptr 0 0] [rdr b n] (.ret (.ptr 1 0)) [rdr b n,rdr b n]:=by
 refine q0b (by simp) ?_
 refine rQ fi177 ?_;trivial
theorem q5W(b:List UInt8)(n m e:Nat)(T2 T3 T4 T5:TypeId)(x y:SV)(z:Value)(R:List SObj)(K:List SObj→Prop)
 (h:K ([rdr b n,.cells T2 [.ptr 0 0],.cells T3 [.raw (.slice none 0 0),rS ⟨#[]⟩],.cells T4 [rI e],rdr b n,.cells T5 [.ptr 4 0]]++R)):
 DCall Tryz.prog 178 [.ptr 5 0,.ptr 1 0,.ptr 2 0,.ptr 3 0] (some (errV e)) ([rdr b m,.cells T2 [.ptr 0 0],.cells T3 [x,y],.cells T4 [.raw z],rdr b n,.cells T5 [.ptr 4 0]]++R) K:=by
 refine j3i fi178 ?_;refine uQ 13 _ ?_;with_reducible refine sxaE ?_
 refine q2t [1,4,5] mixed ?_;refine aQ ?_;exact h
end Go.Proofs.YtmapiojgmbgbgaaGreatDoor
