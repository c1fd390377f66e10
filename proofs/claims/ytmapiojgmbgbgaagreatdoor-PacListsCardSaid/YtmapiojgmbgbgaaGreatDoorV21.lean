/- Contracts: reading a key. -/
import Derived.Test.YtmapiojgmbgbgaaGreatDoorV20
set_option linter.all false
namespace Go.Proofs.YtmapiojgmbgbgaaGreatDoor
open Go Go.Sx Go.Proofs
set_option maxRecDepth 100000
set_option maxHeartbeats 4000000
def zO{α:Type}(res:α→SV):Except Nat (α×Nat)→Out
 |.ok (v,_)=>.ret (res v)
 |.error e=>.pan (errV e)
def zH{α:Type}(b:List UInt8)(n m:Nat):Except Nat (α×Nat)→List SObj
 |.ok (_,k)=>[rdr b (n+k)]
 |.error _=>[rdr b m]
attribute [go_sem] zO zH
def EffZ(P:Program){α:Type}(f:FuncId)(args:List SV)(b:List UInt8)(n m:Nat)(res:α→SV)(x:Except Nat (α×Nat)):Prop:=PE P f args [rdr b n] (zO res x) (zH b n m x)
theorem z1m{P:Program}{α:Type}{f:FuncId}{args:List SV}{b:List UInt8}{n m:Nat}{res:α→SV}{x:Except Nat (α×Nat)}(h:VC P f args [rdr b n] (SealO (zO res x) (zH b n m x))):EffZ P f args b n m res x:=by
 cases x with
 |error e=>exact q0b (by simp [zH]) h
 |ok y=>exact q0b (by simp [zH]) h
theorem z7o{P:Program}{α:Type}{f:FuncId}{args:List SV}{b:List UInt8}{n m:Nat}{res:α→SV}{x:Except Nat (α×Nat)}{v:α}{k:Nat}(h:EffZ P f args b n m res x)(hx:x= .ok (v,k)):PE P f args [rdr b n] (.ret (res v)) [rdr b (n+k)]:=by rw [hx] at h;exact h
theorem z5b{P:Program}{α:Type}{f:FuncId}{args:List SV}{b:List UInt8}{n m:Nat}{res:α→SV}{x:Except Nat (α×Nat)}{e:Nat}(h:EffZ P f args b n m res x)(hx:x= .error e):PE P f args [rdr b n] (.pan (errV e)) [rdr b m]:=by rw [hx] at h;exact h
def posX(b:List UInt8)(n:Nat):Nat:=if takeE 48 (b.drop n)=0 then n+takeN (b.drop n) else n
theorem j3W{b:List UInt8}{n:Nat}(h:takeE 48 (b.drop n)=0):posX b n=n+takeN (b.drop n):=if_pos h
theorem j3F{b:List UInt8}{n:Nat}(h:takeE 48 (b.drop n)≠0):posX b n=n:=if_neg h
def tripIn:PR Key:=bindP (needP 0 intP) fun a=>bindP (needP 1 intP) fun k=>bindP (needP 2 octP) fun c=>retP ((a,k,c):Key)
def keyP:PR Key:=inP 48 tripIn
theorem z3l{α β:Type}{p:PR α}{f:α→PR β}{b:List UInt8}{v:α}{k:Nat}(h:p b= .ok (v,k)):bindP p f b=shiftP k (f v (b.drop k)):=by
 have:=q4M (f:=f) (b:=b) (n:=0) (by rw [Au];exact h)
 rwa [Au,Ac] at this
theorem z6P(b:List UInt8)(n:Nat)(hn:n≤b.length)(hb:b.length≤1099511627776):
 EffZ Tryz.prog 166 [.ptr 0 0] b n (posX b n) (fun v:Key=>.tup [rI v.1,rI v.2.1,.isl .u8 v.2.2]) (keyP (b.drop n)):=by
 unfold keyP;by_cases h:takeE 48 (b.drop n)=0
 · have hs:=q5m b n hn hb h;have hc:=q1r (n:=n) hb;rw [z4I h,j3W h];generalize takeC (b.drop n)=c at*;generalize takeN (b.drop n)=N at*;unfold tripIn;refine z1m ?_;refine rQ fi166 ?_;refine eQ [0] (hs) ?_;refine eQ [1] (z5Y c 0) ?_;have e1:=j0m 0 (by omega) c 0 (Al _) hc
   rw [Au] at e1;cases h1:needP 0 intP c with
   |error e=>
    rw [q3S h1];have e1':=q9k e1 h1;simp only [closeP];refine effP [1] (e1') ?_;trivial
   |ok x=>
    obtain ⟨v1,k1⟩:=x;rw [z3l h1];have e1':=q9f e1 h1;have f1:=q0F _ _ _ h1;rw [Ac] at e1';refine eQ [1] (e1') ?_;have e2:=j0m 1 (by omega) c _ f1 hc
    cases h2:needP 1 intP (c.drop k1) with
    |error e=>
     rw [q3S h2];have e2':=q9k e2 h2;simp only [shiftP,closeP];refine effP [1] (e2') ?_;trivial
    |ok x=>
     obtain ⟨v2,k2⟩:=x;rw [q4M h2];have e2':=q9f e2 h2;have f2:=q2B q0F f1 h2;refine eQ [1] (e2') ?_;have e3:=j4h 2 (by omega) c _ f2 hc
     cases h3:needP 2 octP (c.drop (k1+k2)) with
     |error e=>
      rw [q3S h3];have e3':=q9k e3 h3;simp only [shiftP,closeP];refine effP [1] (e3') ?_;trivial
     |ok x=>
      obtain ⟨v3,k3⟩:=x;rw [q4M h3];have e3':=q9f e3 h3;have f3:=q2B q0F f2 h3;simp only [shiftP,retP,closeP];refine eQ [1] (e3') ?_;by_cases hm:k1+k2+k3<c.length
      · rw [if_pos (by omega)]
        refine effP [1] (z6A c _ hm) ?_;rfl
      rw [if_neg (by omega)]
      refine eQ [1] (z7x c (k1+k2+k3) (by omega)) ?_;trivial
 have hs:=q9F b n hn hb h;rw [z4N h,j3F h];generalize takeE 48 (b.drop n)=e at*;refine z1m ?_;refine rQ fi166 ?_;refine eQ [0] (hs) ?_;refine effP [] (z0L e h) ?_;trivial
theorem q7C{n:Nat}{b:List UInt8}(hn:n≤30)(h:b.length≤16777215)(h0:b≠ []):wrapS 160 n b=tlv (tagB n) b:=by rw [q6i hn h,if_neg h0]
theorem q2h{t:UInt8}{c:List UInt8}:tlv t c≠ []:=by simp [tlv]
theorem z2v(a v:Int)(c:List UInt8)(ha:0≤a∧a≤1048576)(hv:0≤v∧v≤1048576)(hc:c.length≤65536):keyS (a,v,c)=tlv 48 (sufS [intS a,intS v,elemS 4 [c]] 0 3)∧(sufS [intS a,intS v,elemS 4 [c]] 0 3).length≤16777215:=by
 have i1:=q2c a;have i2:=q2c v;obtain ⟨c1,e1,_⟩:=q8a (v:=a) (by omega)
 obtain ⟨c2,e2,_⟩:=q8a (v:=v) (by omega)
 have e3:elemS 4 [c]=tlv 4 c:=q2m (by omega)
 have w3:=q0V 4 [c];simp only [AD,A0,Ai] at w3;have w0:=q1I 160 0 (intS a);have w1:=q1I 160 1 (intS v);have w2:=q1I 160 2 (elemS 4 [c]);have n0:wrapS 160 0 (intS a)≠ []:=by rw [show (0:Int)=((0:Nat):Int) from rfl,q7C (by omega) (by omega) (by rw [e1];exact q2h)];exact q2h
 have n1:wrapS 160 1 (intS v)≠ []:=by rw [show (1:Int)=((1:Nat):Int) from rfl,q7C (by omega) (by omega) (by rw [e2];exact q2h)];exact q2h
 have n2:wrapS 160 2 (elemS 4 [c])≠ []:=by rw [show (2:Int)=((2:Nat):Int) from rfl,q7C (by omega) (by omega) (by rw [e3];exact q2h)];exact q2h
 have hf:(tagN [intS a,intS v,elemS 4 [c]] 3).flatten=sufS [intS a,intS v,elemS 4 [c]] 0 3:=q8v [intS a,intS v,elemS 4 [c]];have ht:tagN [intS a,intS v,elemS 4 [c]] 3= [wrapS 160 0 (intS a),wrapS 160 1 (intS v),wrapS 160 2 (elemS 4 [c])]:=by simp [tagN,List.range_succ]
 have hl:(sufS [intS a,intS v,elemS 4 [c]] 0 3).length≤16777215:=by
  rw [←hf,ht];simp only [AD,A0,Ai,Af];omega
 refine ⟨?_,hl⟩;have hfull:allN 3 (fullAt [wrapS 160 0 (intS a),wrapS 160 1 (intS v),wrapS 160 2 (elemS 4 [c])])=true:=by
  refine q0q fun j hj=> ?_
  match j,hj with
  |0,_=>exact decide_eq_true n0
  |1,_=>exact decide_eq_true n1
  |2,_=>exact decide_eq_true n2
 show wholeS [wrapS 160 0 (intS a),wrapS 160 1 (intS v),wrapS 160 2 (elemS 4 [c])]=_;unfold wholeS;rw [show ([wrapS 160 0 (intS a),wrapS 160 1 (intS v),wrapS 160 2 (elemS 4 [c])]:List (List UInt8)).length=3 from rfl,if_pos hfull,←ht,q2Z (by rw [hf];exact hl),hf]
theorem j0P(a v:Int)(c:List UInt8)(ha:0≤a∧a≤1048576)(hv:0≤v∧v≤1048576)(hc:c.length≤65536)(r:List UInt8):keyP (keyS (a,v,c)++r)= .ok ((a,v,c),(keyS (a,v,c)).length):=by
 have i1:=q2c a;have i2:=q2c v;obtain ⟨c1,e1,_⟩:=q8a (v:=a) (by omega)
 obtain ⟨c2,e2,_⟩:=q8a (v:=v) (by omega)
 have e3:elemS 4 [c]=tlv 4 c:=q2m (by omega)
 have w3:=q0V 4 [c];simp only [AD,A0,Ai] at w3;have hL:∀j,(([intS a,intS v,elemS 4 [c]]:List (List UInt8)).getD j []).length≤16777215:=fun j=>by
  match j with
  |0=>show (intS a).length≤_;omega
  |1=>show (intS v).length≤_;omega
  |2=>show (elemS 4 [c]).length≤_;omega
  |j+3=>exact Al _
 obtain ⟨hS,hin⟩:=z2v a v c ha hv hc;rw [hS];refine q4p hin ?_ r;have q0:intP (([intS a,intS v,elemS 4 [c]]:List (List UInt8)).getD 0 [])= .ok (a,(([intS a,intS v,elemS 4 [c]]:List (List UInt8)).getD 0 []).length):=full (e:=intS a) (q8J (by omega))
 have q1:intP (([intS a,intS v,elemS 4 [c]]:List (List UInt8)).getD 1 [])= .ok (v,(([intS a,intS v,elemS 4 [c]]:List (List UInt8)).getD 1 []).length):=full (e:=intS v) (q8J (by omega))
 have q2:octP (([intS a,intS v,elemS 4 [c]]:List (List UInt8)).getD 2 [])= .ok (c,(([intS a,intS v,elemS 4 [c]]:List (List UInt8)).getD 2 []).length):=full (e:=elemS 4 [c]) (j2o (by omega))
 have n0:([intS a,intS v,elemS 4 [c]]:List (List UInt8)).getD 0 []≠ []:=by show intS a≠ [];rw [e1];exact q2h
 have n1:([intS a,intS v,elemS 4 [c]]:List (List UInt8)).getD 1 []≠ []:=by show intS v≠ [];rw [e2];exact q2h
 have n2:([intS a,intS v,elemS 4 [c]]:List (List UInt8)).getD 2 []≠ []:=by show elemS 4 _≠ [];rw [e3];exact q2h
 have g:=q3c (f:=fun a=>bindP (needP 1 intP) fun k=>bindP (needP 2 octP) fun c=>retP ((a,k,c):Key)) (q1J (k:=2) hL (by omega) n0 q0)
  (q3c (f:=fun k=>bindP (needP 2 octP) fun c=>retP ((a,k,c):Key)) (q1J (k:=1) hL (by omega) n1 q1)
   (q3c (f:=fun c=>retP ((a,v,c):Key)) (q1J (k:=0) hL (by omega) n2 q2) rfl))
 show tripIn _=_;unfold tripIn;rw [g];congr 2;rw [q1h,q1h,q1h];simp only [sufS,List.range'_zero,CE,A0,Ai,Af,Ac,Nat.reduceAdd];omega
theorem z9E(a v:Int)(c:List UInt8):(keyS (a,v,c)).length≤c.length+58:=by
 have i1:=q2c a;have i2:=q2c v;have w3:=q0V 4 [c];simp only [AD,A0,Ai] at w3;have w0:=q1I 160 0 (intS a);have w1:=q1I 160 1 (intS v);have w2:=q1I 160 2 (elemS 4 [c]);show (wholeS [wrapS 160 0 (intS a),wrapS 160 1 (intS v),wrapS 160 2 (elemS 4 [c])]).length≤_;have w4:=q0V 48 [wrapS 160 0 (intS a),wrapS 160 1 (intS v),wrapS 160 2 (elemS 4 [c])];simp only [AD,A0,Ai,Af] at w4;unfold wholeS;split
 · omega
 simp
theorem flat_len{α:Type}(f:α→List UInt8)(B:Nat):∀l:List α,(∀x∈l,(f x).length≤B)→(l.map f).flatten.length≤B*l.length
 | [],_=>by simp
 |x :: l,h=>by
  have h1:=h x (by simp)
  have h2:=flat_len f B l fun y hy=>h y (by simp [hy])
  simp only [AT,AD,Af,AB,CN,AM];omega
def keyOk3(a v:Int)(c:List UInt8):Prop:=(0≤a∧a≤1048576)∧(0≤v∧v≤1048576)∧c.length≤65536
def keyOk:Key→Prop
 | (a,v,c)=>keyOk3 a v c
theorem z4Y{k:Key}(h:keyOk k)(r:List UInt8):keyP (keyS k++r)= .ok (k,(keyS k).length):=by
 obtain ⟨a,v,c⟩:=k;exact j0P a v c h.1 h.2.1 h.2.2 r
theorem z5g{k:Key}(h:keyOk k):(keyS k).length≤65600:=by
 obtain ⟨a,v,c⟩:=k;have h1:=z9E a v c;have h2:c.length≤65536:=h.2.2;exact An h1 (by omega)
theorem z5B{k:Key}(h:keyOk k):keyS k≠ []:=by
 obtain ⟨a,v,c⟩:=k;rw [(z2v a v c h.1 h.2.1 h.2.2).1];exact q2h
theorem z6K{t:Ty}{p:PR t.den}{w:t.den→List UInt8}{l:List t.den}{n:Nat}(hl:l.length≤n)(hx:∀x∈l,w x≠ []∧∀r,p (w x++r)= .ok (x,(w x).length))(hb:(l.map w).flatten.length≤16777215):
 if listS w l= [] then l= [] else inP 48 (listP p n) (listS w l)= .ok (l,(listS w l).length):=by
 by_cases h0:l.length=0
 · rw [if_pos (by unfold listS;rw [if_pos h0])];exact Bi.1 h0
 have e:listS w l=tlv 48 (l.map w).flatten:=by unfold listS mapN;rw [if_neg h0,Az,q2Z hb]
 rw [e,if_neg q2h];exact full (q4p hb (q8D l n hl hx))
theorem z2Y{t:Ty}{w:t.den→List UInt8}{l:List t.den}(B:Nat)(hx:∀x∈l,(w x).length≤B):(listS w l).length≤B*l.length+5:=by
 unfold listS;split
 · simp
 have h1:=q0V 48 (mapN w l l.length);have h2:=flat_len w B l hx;unfold mapN at h1;rw [Az] at h1;unfold mapN;rw [Az];omega
theorem z2A{l:List (List UInt8)}(h:(sufS l 0 l.length).length≤16777215):tagS l=tlv 48 (sufS l 0 l.length):=by
 unfold tagS;rw [q2Z (by rw [q8v];exact h),q8v]
theorem q9p{l:List (List UInt8)}:∀ (k n:Nat),(sufS l n k).length≤((List.range' n k).map fun j=>(l.getD j []).length+5).sum
 |0,n=>by simp [sufS]
 |k+1,n=>by
  rw [q1h,List.range'_succ];have:=q1I 160 (n:Nat) (l.getD n []);have:=q9p (l:=l) k (n+1);simp only [Af,AT,List.sum_cons];omega
def atP{α:Type}(p:PR α)(l:List UInt8):PR α:=fun _=>match p l with
 |.ok (x,_)=>.ok (x,0)
 |.error e=>.error e
def strsP(l:List UInt8):PR (List ByteArray):=atP (listP strP l.length) l
def nameIn:PR Prin:=bindP (needP 0 (rdP 48 decOct)) fun l=>bindP (strsP l) fun xs=>bindP (needP 1 strP) fun t=>retP ((xs,t):Prin)
def chkP{α:Type}(q:α→Bool):Except Nat (α×Nat)→Except Nat (α×Nat)
 |.ok (v,k)=>if q v=true then .ok (v,k) else .error 6
 |.error e=>.error e
def nameP:PR Prin:=fun r=>chkP vPrin (inP 48 nameIn r)
theorem z6W{α:Type}(f:α→List UInt8):∀l:List α,(∀x∈l,f x≠ [])→l.length≤(l.map f).flatten.length
 | [],_=>by simp
 |x :: l,h=>by
  have h1:=List.length_pos_iff.2 (h x (by simp))
  have h2:=z6W f l fun y hy=>h y (by simp [hy])
  simp only [AT,AD,Af,AB];omega
def strE(s:ByteArray):List UInt8:=elemS 27 [s.data.toList]
theorem z2W(s:ByteArray):(strE s).length≤s.size+5:=by
 have:=q0V 27 [s.data.toList];have hl:s.data.toList.length=s.size:=by simp
 simp only [AD,A0,Ai] at this;unfold strE;omega
theorem z2c{s:ByteArray}(h:s.size≤16777215):strE s≠ []:=by
 have hl:s.data.toList.length=s.size:=by simp
 unfold strE;rw [q2m (by omega)];exact q2h
theorem z6q(xs:List ByteArray)(t:ByteArray)(hn:xs.length≤16)(hx:∀x∈xs,x.size≤65536)(ht:t.size≤65536):
 (sufS [elemS 48 (strsN xs xs.length),strE t] 0 2).length≤1200000∧nameIn (sufS [elemS 48 (strsN xs xs.length),strE t] 0 2)= .ok ((xs,t),(sufS [elemS 48 (strsN xs xs.length),strE t] 0 2).length):=by
 have e0:strsN xs xs.length=xs.map strE:=by unfold strsN strE;rw [Az]
 have hb:(xs.map strE).flatten.length≤1048700:=by
  have:=flat_len strE 65541 xs fun x hx'=>by
   have:=z2W x;have:=hx x hx';omega
  have h4:65541*xs.length≤65541*16:=Cg _ hn;omega
 have e1:elemS 48 (strsN xs xs.length)=tlv 48 (xs.map strE).flatten:=by rw [e0,q2Z (by omega)]
 have hF:=z6W strE xs fun x hx'=>z2c (by have:=hx x hx';omega)
 have l1:=z2W t;have l0:(elemS 48 (strsN xs xs.length)).length≤1048705:=by
  have:=q0V 48 (strsN xs xs.length);rw [e0] at this⊢;omega
 have hs:=q9p (l:=[elemS 48 (strsN xs xs.length),strE t]) 2 0;have hs':(sufS [elemS 48 (strsN xs xs.length),strE t] 0 2).length≤1200000:=by
  refine An hs ?_;show (elemS 48 (strsN xs xs.length)).length+5+ ((strE t).length+5+0)≤_;omega
 refine ⟨hs',?_⟩;have hL:∀j,(([elemS 48 (strsN xs xs.length),strE t]:List (List UInt8)).getD j []).length≤16777215:=fun j=>by
  match j with
  |0=>show (elemS 48 (strsN xs xs.length)).length≤_;omega
  |1=>show (strE t).length≤_;omega
  |j+2=>exact Al _
 have q0:rdP 48 decOct (elemS 48 (strsN xs xs.length))= .ok ((xs.map strE).flatten,(elemS 48 (strsN xs xs.length)).length):=by
  rw [e1];exact full (q7c (by omega) rfl)
 have n0:elemS 48 (strsN xs xs.length)≠ []:=by rw [e1];exact q2h
 have q1:listP strP (xs.map strE).flatten.length (xs.map strE).flatten= .ok (xs,(xs.map strE).flatten.length):=q8D xs _ hF fun x hx'=>⟨z2c (by have:=hx x hx';omega),z5P (by have:=hx x hx';omega)⟩
 have q1':∀r,strsP (xs.map strE).flatten r= .ok (xs,0):=fun r=>by unfold strsP atP;rw [q1]
 have q2:strP (strE t)= .ok (t,(strE t).length):=full (z5P (by omega))
 have n2:strE t≠ []:=z2c (by omega)
 have g:=q3c (f:=fun l=>bindP (strsP l) fun xs=>bindP (needP 1 strP) fun t=>retP ((xs,t):Prin)) (q1J (l:=[elemS 48 (strsN xs xs.length),strE t]) (n:=0) (k:=1) hL (by omega) n0 q0)
  (q3c (p:=strsP (xs.map strE).flatten) (f:=fun xs=>bindP (needP 1 strP) fun t=>retP ((xs,t):Prin)) (r':=sufS [elemS 48 (strsN xs xs.length),strE t] 1 1) ⟨q1' _,Au⟩
   (q3c (f:=fun t=>retP ((xs,t):Prin)) (q1J (l:=[elemS 48 (strsN xs xs.length),strE t]) (n:=1) (k:=0) hL (by omega) n2 q2) rfl))
 unfold nameIn;rw [g];congr 2;rw [q1h,q1h];simp only [sufS,List.range'_zero,CE,A0,Ai,Af,Ac,Nat.reduceAdd];omega
theorem z9p(xs:List ByteArray)(t:ByteArray)(hn:xs.length≤16)(hx:∀x∈xs,x.size≤65536)(ht:t.size≤65536)(hv:vPrin (xs,t)=true):
 (∀r:List UInt8,nameP (prinS (xs,t)++r)= .ok ((xs,t),(prinS (xs,t)).length))∧(prinS (xs,t)).length≤1200010∧prinS (xs,t)≠ []:=by
 obtain ⟨h1,h2⟩:=z6q xs t hn hx ht;have hS:prinS (xs,t)=tlv 48 (sufS [elemS 48 (strsN xs xs.length),strE t] 0 2):=by
  show elemS 48 [wrapS 160 0 (elemS 48 (strsN xs xs.length)),wrapS 160 1 (strE t)]=_;have e:([wrapS 160 0 (elemS 48 (strsN xs xs.length)),wrapS 160 1 (strE t)]:List (List UInt8)).flatten=sufS [elemS 48 (strsN xs xs.length),strE t] 0 2:=by
   rw [q1h,q1h];simp [sufS]
  rw [q2Z (by rw [e];omega),e]
 rw [hS];refine ⟨fun r=> ?_,?_,q2h⟩
 · unfold nameP;rw [q4p (by omega) h2 r]
   simp only [chkP];rw [if_pos hv]
 rw [q2v];have:=q8F (sufS [elemS 48 (strsN xs xs.length),strE t] 0 2).length;omega
theorem z6Q{B:Nat}:∀ (m:List (List UInt8)),(∀x∈m,x.length≤B)→m.flatten.length≤B*m.length
 | [],_=>by simp
 |x :: m,h=>by
  have h1:=h x (by simp)
  have h2:=z6Q m (fun y hy=>h y (by simp [hy]))
  simp only [AD,Af,AB,CN,AM];omega
theorem z4q{l:List ByteArray}{k:Nat}(hl:l.length≤4)(h:∀x∈l,x.size≤32):(strsN l k).flatten.length≤148:=by
 have h1:=z6Q (B:=37) (strsN l k) (fun x hx=>by
  unfold strsN at hx;rw [BU] at hx;obtain ⟨y,hy,rfl⟩:=hx;have h2:=h y (List.mem_of_mem_take hy);have h3:=q0V 27 [y.data.toList];have h4:y.data.toList.length=y.size:=by simp
  simp only [AD,A0,Ai] at h3
  omega)
 have h2:(strsN l k).length≤4:=by unfold strsN;simp;omega
 have:37* (strsN l k).length≤37*4:=Cg _ h2;omega
theorem q2H{α β:Type}{p:PR α}{f:α→PR β}{l:List (List UInt8)}{n k:Nat}{v:α}{u:β}(h:p (sufS l n (k+1))= .ok (v,(wrapS 160 (n:Nat) (l.getD n [])).length)∧(sufS l n (k+1)).drop (wrapS 160 (n:Nat) (l.getD n [])).length=sufS l (n+1) k)
 (h2:f v (sufS l (n+1) k)= .ok (u,(sufS l (n+1) k).length)):bindP p f (sufS l n (k+1))= .ok (u,(sufS l n (k+1)).length):=by
 rw [q3c h h2,q1h l n k,Af]
def nmsP:PR (List Prin):=inP 48 (listP nameP 16)
theorem q8A{p:Prin}(h:vPrin p=true):p.1.length≤4∧(∀x∈p.1,x.size≤32)∧p.2.size≤32:=by
 simp only [vPrin,Aj,decide_eq_true_eq,z0S,szB,q2e] at h;refine ⟨by omega,fun x hx=> ?_,by omega⟩
 obtain ⟨j,hj,rfl⟩:=AV hx;have:=h.2 j hj;rw [q5i hj] at this;simp only [vPart,szB,Aj,decide_eq_true_eq] at this;omega
theorem z9z{p:Prin}(h:vPrin p=true):(prinS p).length≤205:=by
 obtain ⟨h1,h2,h3⟩:=q8A h;obtain ⟨xs,t⟩:=p;have f:=z4q (l:=xs) (k:=xs.length) h1 h2;have g1:=q0V 48 (strsN xs xs.length);have g2:=q0V 27 [t.data.toList];have g3:t.data.toList.length=t.size:=by simp
 simp only [AD,A0,Ai] at g2;have g4:=q1I 160 0 (elemS 48 (strsN xs xs.length));have g5:=q1I 160 1 (elemS 27 [t.data.toList]);have g6:=q0V 48 [wrapS 160 0 (elemS 48 (strsN xs xs.length)),wrapS 160 1 (elemS 27 [t.data.toList])];simp only [AD,A0,Ai,Af] at g6;have h3':t.size≤32:=h3;refine An g6 ?_;omega
theorem q4H{p:Prin}(h:vPrin p=true):(∀r:List UInt8,nameP (prinE p++r)= .ok (p,(prinE p).length))∧(prinE p).length≤205∧prinE p≠ []:=by
 have hle:=z9z h;obtain ⟨h1,h2,h3⟩:=q8A h;have he:prinE p=prinS p:=by unfold prinE;rw [if_pos h]
 rw [he];obtain ⟨xs,t⟩:=p;have h1':xs.length≤4:=h1;have h3':t.size≤32:=h3;have:=z9p xs t (by omega) (fun x hx=>by have:=h2 x hx;omega) (by omega) h
 exact ⟨this.1,hle,this.2.2⟩
theorem j4A{l:List Prin}(hl:l.length≤16)(hv:∀p∈l,vPrin p=true):(if listS (t:=PrinT) prinE l= [] then l= [] else nmsP (listS (t:=PrinT) prinE l)= .ok (l,(listS (t:=PrinT) prinE l).length))∧(listS (t:=PrinT) prinE l).length≤3300:=by
 have hf:=flat_len prinE 205 l fun x hx=>(q4H (hv x hx)).2.1;have h4:205*l.length≤205*16:=Cg _ hl;refine ⟨z6K (t:=PrinT) (p:=nameP) (w:=prinE) hl (fun x hx=>⟨(q4H (hv x hx)).2.2,(q4H (hv x hx)).1⟩) (by omega),?_⟩
 have:=z2Y (t:=PrinT) (w:=prinE) (l:=l) 205 fun x hx=>(q4H (hv x hx)).2.1;exact An this (by omega)
theorem j3p{t:Int}(h:0≤t∧t≤1099511627776):∃n:Nat,t=n∧n≤1099511627776:=⟨t.toNat,by omega,by omega⟩
end Go.Proofs.YtmapiojgmbgbgaaGreatDoor
namespace Go.Sx
open Go
variable [Ghost] {P:Program} {AQ:Ex→List SV→List SObj→Prop} {k0:Nat} {k:List IT} {t:List SV} {H:List SObj}

theorem q9I{P:Program}{k:List It}(A A' G:List SObj){ty:Ty}{xs:List ty.den}(hk:k0≤A.length)(hA:A=A'.map (SObj.ren (shift A.length (A.length+G.length))))(hb:belH (A.length+1) A'=true)(hbt:SV.belL (A.length+1) t=true)
 (hl:leT (shift A.length (A.length+G.length)) t t)(hs:Sound P AQ ⟨k0,k,t,A'++ [.row ty xs]⟩):Sound P AQ ⟨k0,k,t,A++G++ [.row ty xs]⟩:=by
 intro E r n C a h0 hd;have hlen:A.length=A'.length:=by have:=congrArg List.length hA;rwa [A5] at this
 have hsh:∀h,h<A.length→shift A.length (A.length+G.length) h=h:=fun h hh=>by unfold shift;rw [if_neg (by omega)]
 have hshn:shift A.length (A.length+G.length) A.length=A.length+G.length:=by unfold shift;rw [if_pos rfl]
 have hd':Den E (C.ren (shift A.length (A.length+G.length)) (A'++ [SObj.row ty xs]).length) t (A'++ [.row ty xs]) a:=by
  refine q8c h0.1 hd hl (by rw [Af,←hlen];exact hbt) (fun h o ho _=> ?_) (q5H fun h o ho=> ?_) (fun h h' o o' ho ho' _ _ e=> ?_) (fun h hh=>hsh h (Am hh hk)) (by rw [Af,←hlen];exact An hk (CR _ _)) (fun m hm0 hm=> ?_)
  · rcases q0t ho with ⟨hh,ho⟩ | ⟨hh,rfl⟩
    · rw [hsh h (by omega),List.append_assoc,Ag (by omega)]
      have:=congrArg (fun l=>l[h]?) hA;simp only [AN,ho] at this;exact this
    rw [hh,←hlen,hshn,←Af,Ao (Ae _),CG];rfl
  · rcases q0t ho with ⟨hh,ho⟩ | ⟨hh,rfl⟩
    · rw [Af,←hlen];exact q3f hb ho
    rfl
  · have h1:=(Aa.1 ho).1;have h2:=(Aa.1 ho').1;rw [Af,Bo] at h1 h2;unfold shift at e;split at e<;>split at e<;>omega
  have hm:=hm;have hpos:0<A.length:=Am hm0 (An h0.1 hk);rw [List.append_assoc,Ag hpos] at hm;rw [Ag (by omega)]
  have h1:=congrArg (fun l=>l[0]?) hA;simp only [AN,hm] at h1;cases h2:A'[0]? with
  |none=>rw [h2] at h1;simp at h1
  |some o=>rw [h2] at h1;cases o<;>simp [SObj.ren] at h1;rw [h1]
 exact hs E r n (C.ren (shift A.length (A.length+G.length)) (A'++ [SObj.row ty xs]).length) a h0 hd'
theorem z4e(A A' G:List SObj){ty:Ty}{xs:List ty.den}{td:List IT}(hp:plainT td=true)(hH:H=A++G++ [.row ty xs])(hk:k0≤A.length)(hA:A=A'.map (SObj.ren (shift A.length (A.length+G.length))))(hb:belH (A.length+1) A'=true)(hbt:SV.belL (A.length+1) t=true)
 (hl:leT (shift A.length (A.length+G.length)) t t)(hs:SoundI P AQ ⟨k0,td,t,A'++ [.row ty xs]⟩):SoundI P AQ ⟨k0,td,t,H⟩:=by
 subst hH;exact q0d (fun _ hr=>q9I A A' G hk hA hb hbt hl (q0e hs hr)) hp
end Go.Sx
namespace Go.Sx
open Go
variable {P:Program} {AQ:Ex→List SV→List SObj→Prop} {k0:Nat} {k:List IT} {t:List SV} {H:List SObj}

def CutQ(P:Program)(AQ:Ex→List SV→List SObj→Prop)(k0:Nat)(k:List IT)(T0:List SV):Ex→List SV→List SObj→Prop
 |.normal,t,H=>SoundI P AQ ⟨k0,k,t,H⟩
 |.pan s,_,H=>AQ (.pan s) T0 H
 |_,_,_=>False
theorem j3X{T0:List SV}(h:SoundI P AQ ⟨k0,k,t,H⟩):CutQ P AQ k0 k T0 .normal t H:=h
theorem j3y{T0 t':List SV}{s:SV}(h:AQ (.pan s) T0 H):CutQ P AQ k0 k T0 (.pan s) t' H:=h
def SameBut(ws:List Nat)(t t':List SV):Prop:=t'.length=t.length∧∀i,i ∉ ws→t'[i]?=t[i]?
theorem SameBut.put{ws:List Nat}{t t':List SV}(h:SameBut ws t t'){d:Option Tmp}(hd:∀e,d=some e→e∈ws)(s:SV):SameBut ws t (putT t' d s):=by
 cases d with
 |none=>exact h
 |some e=>exact ⟨by simp [putT,h.1],fun i hi=>by
  have hne:e≠i:=fun e'=>hi (e'▸hd e rfl);simp only [putT];rw [Aq hne]
  exact h.2 i hi⟩
theorem z0g:∀ (ws:List Nat) (t:List SV),(maskT ws t).length=t.length
 | [],t=>rfl
 |d :: ws,t=>by
  show (maskT ws (t.set d .any)).length=_;rw [z0g ws,A4]
theorem z2N:∀ (ws:List Nat) (t:List SV) (i:Nat) (s:SV),(maskT ws t)[i]?=some s→s= .any∨(i ∉ ws∧t[i]?=some s)
 | [],t,i,s,h=>.inr ⟨by simp,h⟩
 |d :: ws,t,i,s,h=>by
  have h':(maskT ws (t.set d .any))[i]?=some s:=h;rcases z2N ws _ i s h' with rfl| ⟨h1,h2⟩
  · exact .inl rfl
  by_cases e:d=i
  · subst e;rw [List.getElem?_set] at h2;simp at h2;exact .inl h2.2.symm
  rw [Aq e] at h2;exact .inr ⟨by simp [h1];exact fun q=>e q.symm,h2⟩
theorem z7z:∀ {l l':List SV},l.length=l'.length→(∀ (i:Nat) s s',l[i]?=some s→l'[i]?=some s'→s'= .any∨s'=s)→leL l l'
 | [],[],_,_=>trivial
 | [],_ :: _,h,_=>by simp at h
 |_ :: _,[],h,_=>by simp at h
 |s :: l,s' :: l',h,hp=>by
  refine ⟨?_,z7z (by simpa using h) fun i x x' hx hx'=>hp (i+1) x x' (by simpa using hx) (by simpa using hx')⟩
  rcases hp 0 s s' rfl rfl with rfl|rfl
  · exact SV.le_any s
  exact SV.le_refl _
theorem SameBut.le{ws:List Nat}{t t':List SV}(h:SameBut ws t t'):leL t' (maskT ws t):=
 z7z (by rw [z0g,h.1]) fun i s s' hs hs'=>by
  rcases z2N ws t i s' hs' with rfl| ⟨h1,h2⟩
  · exact .inl rfl
  right;rw [h.2 i h1,h2] at hs;cases hs;rfl
theorem z8K{k:List It}{all:Array Oper}{G:List Nat}{kI:List IT}{ws:List Nat}{S:Array Bool}{t0:List SV}(hr:RelT P kI k)(hS:Region.ready .any all S= [])(hW:∀ (i:Nat) o,all[i]?=some o→S.getD i false=true→∀d,o.dst=some d→d∈ws):
 ∀ (fuel:Nat) (listed:Array Bool) (t:List SV) (H:List SObj),SameBut ws t0 t→listed.size=S.size→(∀j,listed.getD j false=true→S.getD j false=true)→AnyV P (CutQ P AQ k0 kI (maskT ws t0)) k0 [] all G fuel listed t H→
  ∀ (E:EnD) (r:Option Nat) (n:Nat) (C:Cx) (a:Act),Fit E r k0→Den E C t H a→wpAnyIn (Fw r) n P .any all (afterT (Fw r) n P E (conc E AQ) k) fuel listed a C.w:=by
 have leaf:∀ {t:List SV} {H:List SObj},Sound P (CutQ P AQ k0 kI (maskT ws t0)) ⟨k0,[],t,H⟩→∀ (E:EnD) (r:Option Nat) (n:Nat) (C:Cx) (a:Act),Fit E r k0→Den E C t H a→wpT (Fw r) n P E (conc E AQ) k a C.w:=by
  intro t H h E r n C a h0 hd;have h1:=h E r n C a h0 hd;simp only [wpT] at h1;obtain ⟨C',t',H',h2,h3,h4⟩:=h1;rw [←h3];exact q0e (h2:SoundI P AQ ⟨k0,kI,t',H'⟩) hr E r n C' a h0 h4
 intro fuel;induction fuel with
 |zero=>exact fun listed t H _ _ _ h E r n C a h0 hd=>⟨h.1,leaf h.2 E r n C a h0 hd⟩
 |succ fuel ih=>
  intro listed t H hb hsz hsub h E r n C a h0 hd;refine ⟨fun h9=>leaf (h.1 h9) E r n C a h0 hd,fun i hi=> ?_⟩;obtain ⟨o,ho,h1⟩:=h.2 i hi;obtain ⟨hun,o',ho',hall⟩:=mem_ready.1 hi;have hlt:i<S.size:=by
   rcases AC i listed.size with q|q
   · omega
   simp [Bu q] at hun
  have hiS:S.getD i false=true:=by
   cases hq:S.getD i false with
   |true=>rfl
   |false=>
    have:i∈Region.ready .any all S:=mem_ready.2 ⟨by simp [hlt] at hq⊢;exact hq,o',ho',fun e he hb'=>hsub _ (hall e he hb')⟩
    rw [hS] at this;cases this
  have hwd:∀d,o.dst=some d→d∈ws:=hW i o ho hiS;have hsub':∀j,(listed.setIfInBounds i true).getD j false=true→S.getD j false=true:=fun j hj=>by
   by_cases e:i=j
   · subst e;exact hiS
   rw [getD_set_ne false e] at hj;exact hsub j hj
  have hsz':(listed.setIfInBounds i true).size=S.size:=by simpa using hsz
  unfold wpOpIn;simp only [ho];rcases h1 with ⟨hw,hop⟩ | ⟨hw,hk⟩
  · rw [if_pos (q1V hd.tmps hw)];refine hop E C r n a _ _ hd.wd hd.defs.2 (fun x _=>q2E hd.tmps x) ?_ ?_
    · intro s v H' C' hk hw' hx hs;exact ih _ _ _ (hb.put hwd s) hsz' hsub' hk.2 E r n C' _ h0 (q3Z hd hw' hx hs)
    intro s v H' C' hk hw' hx hs;exact ⟨C',maskT ws t0,H',s,v,hk,rfl,hs,rfl,hw',hx.ext hd.ext,(DefOk.stp hx hd.defs).fin,.inr (q2K hb.le (q0f hx.evo hd.tmps))⟩
  rw [if_neg (by rw [q1V hd.tmps hw];simp)]
  exact ⟨fun f _=>q4r r f,ih _ _ _ (hb.put hwd _) hsz' hsub' hk.2 E r n C _ h0 (q3Z hd hd.wd (.of (Ext.refl _ _)) (by rw [SV.den];rfl))⟩
theorem z0H{all:Array Oper}:∀ (fuel:Nat) (listed:Array Bool) (l:List (Bool×OpI)),planL P all fuel listed=some l→
 ∃S:Array Bool,Region.ready .any all S= []∧S.size=listed.size∧(∀j,listed.getD j false=true→S.getD j false=true)∧∀i,S.getD i false=true→listed.getD i false=true∨∃o,all[i]?=some o∧∀d,o.dst=some d→d∈IC.wr (.drw l)
 |0,listed,l,h=>by
  unfold planL at h;split at h
  · rename_i he;exact ⟨listed,by simpa using he,rfl,fun _ h=>h,fun _ h=>.inl h⟩
  cases h
 |n+1,listed,l,h=>by
  unfold planL at h;split at h
  · rename_i he;exact ⟨listed,by simpa using he,rfl,fun _ h=>h,fun _ h=>.inl h⟩
  split at h
  · rename_i i fl hch;split at h
    · rename_i o ho;split at h
      · rename_i io hco;split at h
        · rename_i l' hl';split at h
          · cases h;obtain ⟨S,h1,h2,h3,h4⟩:=z0H n _ l' hl';refine ⟨S,h1,by simpa using h2,fun j hj=>h3 j (getD_set_true hj),fun j hj=> ?_⟩
            rcases h4 j hj with q| ⟨o',q1,q2⟩
            · by_cases e:i=j
              · subst e;refine .inr ⟨o,ho,fun d hd=> ?_⟩;have hio:=(q0E hco).2;simp only [IC.wr,B1,BX];left;unfold OpI.wr;split<;>simp [hio,hd]
              rw [getD_set_ne false e] at q;exact .inl q
            refine .inr ⟨o',q1,fun d hd=> ?_⟩;have:=q2 d hd;simp only [IC.wr,B1,BX] at this⊢;exact .inr this
          cases h
        cases h
      cases h
    cases h
  cases h
theorem j2q{l:List (Bool×OpI)}(G:List Nat)(hm:P.follows .mixedOrders=true)(h:SoundI P (CutQ P AQ k0 k (maskT (IC.wr (.drw l)) t)) ⟨k0,[.dops G l],t,H⟩):SoundI P AQ ⟨k0,.ic (.drw l) :: k,t,H⟩:=q0d (fun td' hr=>by
 obtain ⟨c',r,rfl,hc,hr⟩:=hr;obtain ⟨id,all,rfl,hl⟩:=q0N hc;obtain ⟨S,h1,h2,h3,h4⟩:=z0H _ _ _ hl;intro E r' n C a h0 hd;simp only [wpT];have hd':Den E C.drew t H a:=⟨q3m hd.wd,hd.ext.trans (q2l C H),DefOk.next (q2l C H) hd.defs,q0f (q2q C) hd.tmps⟩
 have hno:∀j,(Array.replicate all.size false).getD j false=true→False:=fun j hj=>by
  rcases AC j all.size with q|q
  · simp [q] at hj
  simp [q] at hj
 refine wpIn_region_any hm (z8K hr h1 (fun i o ho hi d hd=> ?_) _ _ _ _ ⟨rfl,fun _ _=>rfl⟩ h2.symm h3 (h all _ _ [] hl rfl) E r' n C.drew a h0 hd');rcases h4 i hi with q| ⟨o',q1,q2⟩
 · exact (hno i q).elim
 rw [ho] at q1;cases q1
 exact q2 d hd) rfl
end Go.Sx
namespace Go.Sx
open Go

def ZInv(q:Nat→Prop)(w0:World)(C:Cx)(H:List SObj):Prop:=∀b,q b→b<C.w.heap.size∧¬C.I b∧¬OwnB C H b∧C.w.heap[b]?=w0.heap[b]?

theorem z1D{E:En}{C:Cx}{H:List SObj}(hx:Ext E C H){b:Nat}(h1:b<E.C.w.heap.size)(h2:¬E.C.I b)(h3:¬OwnB E.C E.H b):b<C.w.heap.size∧¬C.I b∧¬OwnB C H b∧C.w.heap[b]?=E.C.w.heap[b]?:=by
 refine ⟨Am h1 hx.size,fun hi=> ?_,fun ho=> ?_,hx.frame b h1 h3⟩
 · rcases hx.immNew b hi with g| ⟨g|g,_⟩
   · exact h2 g
   · exact absurd h1 (AG.2 g)
   exact h3 g
 rcases hx.ownNew b ho with g|g
 · exact absurd h1 (AG.2 g)
 exact h3 g

@[reducible] def frzG(q:Nat→Prop)(w0:World):Ghost where
 inv0:=fun _ C H=>ZInv q w0 C H
 fin:=fun E _ _ ds=>ds=E.base∧True
 toFin0:=fun _ _=>⟨rfl,trivial⟩
 next0:=fun hx h b hb=>by
  obtain ⟨h1,h2,h3,h4⟩:=h b hb;obtain ⟨g1,g2,g3,g4⟩:=z1D hx h1 h2 h3;exact ⟨g1,g2,g3,g4.trans h4⟩
 same0:=fun _ e _ hi ho _ _ h b hb=>by
  obtain ⟨h1,h2,h3,h4⟩:=h b hb;rw [e];exact ⟨h1,fun x=>(hi b x).elim h2 h3,fun x=>h3 (ho b x),h4⟩

def simV(u v:Value):Prop:=v=u∨(∃k n m,u= .int k n∧v= .int k m)∨∃s s',u= .string s∧v= .string s'∧s'.size≤140737488355328
def simB(o o':Option Obj):Prop:=o'=o∨∃ (vs vs':List Value) (T:TypeId) (fz:Nat×Nat),o=some (.cells vs.toArray T fz)∧o'=some (.cells vs'.toArray T fz)∧vs'.length=vs.length∧∀ (i:Nat) u v,vs[i]?=some u→vs'[i]?=some v→simV u v
theorem simV.trans{u v w:Value}(h:simV u v)(k:simV v w):simV u w:=by
 rcases h with rfl| ⟨k',n,m,rfl,rfl⟩ | ⟨s,s',rfl,rfl,h1⟩
 · exact k
 · rcases k with rfl| ⟨k2,n2,m2,h1,rfl⟩ | ⟨s,s',h1,_⟩
   · exact .inr (.inl ⟨_,_,_,rfl,rfl⟩)
   · cases h1;exact .inr (.inl ⟨_,_,_,rfl,rfl⟩)
   cases h1
 rcases k with rfl| ⟨k2,n2,m2,h1,rfl⟩ | ⟨s2,s3,h2,rfl,h3⟩
 · exact .inr (.inr ⟨_,_,rfl,rfl,h1⟩)
 · cases h1
 cases h2;exact .inr (.inr ⟨_,_,rfl,rfl,h3⟩)
theorem z3c{w0 w:World}{b o:Nat}{u:Value}(h:simB w0.heap[b]? w.heap[b]?)(hc:w0.cell? ⟨b,o,none⟩=some u):∃v,w.cell? ⟨b,o,none⟩=some v∧simV u v:=by
 rcases h with h| ⟨vs,vs',T,fz,h1,h2,h3,h4⟩
 · exact ⟨u,(World.cell?_of_block (a:=⟨b,o,none⟩) h).trans hc,.inl rfl⟩
 rw [q0g h1] at hc;have hlt:o<vs'.length:=by rw [h3];exact (Aa.1 hc).1
 exact ⟨vs'[o],by rw [q0g h2,Ab hlt],h4 o u _ hc (Ab hlt)⟩

def SInv(q:Nat→Prop)(w0:World)(E:En)(C:Cx)(H:List SObj):Prop:=
 ∀b,q b→((E.C.w.heap.size≤b∨OwnB E.C E.H b)∧¬TBlk b)∧b<C.w.heap.size∧¬C.I b∧¬OwnB C H b∧Unf C.w b∧simB w0.heap[b]? C.w.heap[b]?

@[reducible] def scrG(q:Nat→Prop)(w0:World):Ghost where
 inv0:=fun E C H=>SInv q w0 E.toEn C H
 fin:=fun E C H ds=>ds=E.base∧TabE E.toEn C H∧SInv q w0 E.toEn C H
 toFin0:=fun ht h=>⟨rfl,ht,h⟩
 next0:=fun hx h b hb=>by
  obtain ⟨h0,h1,h2,h3,h4,h5⟩:=h b hb;obtain ⟨g1,g2,g3,g4⟩:=z1D hx h1 h2 h3;refine ⟨h0,g1,g2,g3,h4.keep g4,?_⟩;have g4':=g4;simp only at g4';rw [g4'];exact h5
 same0:=fun _ e _ hi ho _ _ h b hb=>by
  obtain ⟨h0,h1,h2,h3,h4,h5⟩:=h b hb;rw [e];exact ⟨h0,h1,fun x=>(hi b x).elim h2 h3,fun x=>h3 (ho b x),h4,h5⟩

def At(q:Nat→Prop)(w0:World)(t:Ty)(x:t.den)(b o:Nat):Prop:=q b∧∃vs,t.rel q w0 x vs∧∀j u,vs[j]?=some u→w0.cell? ⟨b,o+j,none⟩=some u
theorem At.fst{q:Nat→Prop}{w0:World}{s t:Ty}{x:(Ty.prod s t).den}{b o:Nat}(h:At q w0 (.prod s t) x b o):At q w0 s x.1 b o:=by
 obtain ⟨hq,vs,⟨v1,v2,rfl,h1,h2⟩,hc⟩:=h;exact ⟨hq,v1,h1,fun j u hj=>hc j u (by rw [Ag (Aa.1 hj).1];exact hj)⟩
theorem At.snd{q:Nat→Prop}{w0:World}{s t:Ty}{x:(Ty.prod s t).den}{b o:Nat}(h:At q w0 (.prod s t) x b o):At q w0 t x.2 b (o+s.size):=by
 obtain ⟨hq,vs,⟨v1,v2,rfl,h1,h2⟩,hc⟩:=h;refine ⟨hq,v2,h2,fun j u hj=> ?_⟩;rw [Nat.add_assoc];refine hc (s.size+j) u ?_;rw [←s.rel_size _ _ h1,Ao (CR _ _),Co];exact hj
def Sl(q:Nat→Prop)(w0:World)(t:Ty)(xs:List t.den)(v:Value):Prop:=(Ty.slice t).rel q w0 xs [v]
theorem Sl.out{q:Nat→Prop}{w0:World}{t:Ty}{xs:List t.den}{v:Value}(h:Sl q w0 t xs v):
 ∃A c,v= .slice A xs.length c∧(xs= []∨∃b o,A=some ⟨b,o,none⟩∧∀i x,xs[i]?=some x→At q w0 t x b (o+i*t.size)):=by
 obtain ⟨A,n,c,e,rfl,_,_,h⟩:=h;simp only [List.cons.injEq,and_true] at e;refine ⟨A,c,e,orMap h id ?_⟩;rintro ⟨b,o,rfl,hq,h⟩;exact ⟨b,o,rfl,fun i x hx=>⟨hq,h i x hx⟩⟩
theorem At.sl{q:Nat→Prop}{w0:World}{t:Ty}{xs:List t.den}{b o:Nat}(h:At q w0 (.slice t) xs b o):∃v,Sl q w0 t xs v∧w0.cell? ⟨b,o,none⟩=some v:=by
 obtain ⟨hq,vs,hr,hc⟩:=h;obtain ⟨A,n,c,rfl,_⟩:=id hr;exact ⟨_,hr,hc 0 _ rfl⟩
theorem At.int{q:Nat→Prop}{w0:World}{k:IntKind}{x:(Ty.int k).den}{b o:Nat}(h:At q w0 (.int k) x b o):w0.cell? ⟨b,o,none⟩=some (.int k x):=by
 obtain ⟨hq,vs,rfl,hc⟩:=h;exact hc 0 _ rfl
theorem At.u8{q:Nat→Prop}{w0:World}{x:Ty.u8.den}{b o:Nat}(h:At q w0 .u8 x b o):w0.cell? ⟨b,o,none⟩=some (.int .u8 (UInt8.toNat x)):=by
 obtain ⟨hq,vs,rfl,hc⟩:=h;exact hc 0 _ rfl
theorem At.str{q:Nat→Prop}{w0:World}{x:Ty.str.den}{b o:Nat}(h:At q w0 .str x b o):w0.cell? ⟨b,o,none⟩=some (.string x):=by
 obtain ⟨hq,vs,⟨rfl,_⟩,hc⟩:=h;exact hc 0 _ rfl

variable {P:Program} {AQ:Ex→List SV→List SObj→Prop}
theorem z5k{q:Nat→Prop}{w0:World}{b o:Nat}{u:Value}{d:Option Tmp}{m:IM}(hq:q b)(hc:w0.cell? ⟨b,o,none⟩=some u)(hk:∀v,simV u v→ @SoundI (scrG q w0) P AQ {m with tmps:=putT m.tmps d (.raw v)}):
 @ZldI (scrG q w0) P AQ none b o d m:=by
 rintro E C _ ⟨_,hg⟩;obtain ⟨v,h1,h2⟩:=z3c (hg b hq).2.2.2.2.2 hc;refine ⟨.raw v,.inl ⟨[.raw v],[v],q0c.2 ⟨v,[],rfl,by rw [SV.den],q0p.2 rfl⟩,fun j u hj=> ?_,rfl⟩,hk v h2⟩
 cases j with
 |zero=>simp only [Cn,Option.some.injEq] at hj;subst hj;exact h1
 |succ j=>simp at hj
theorem j0s{q:Nat→Prop}{w0:World}{t:Ty}{ys:List t.den}{b o:Nat}{d:Option Tmp}{m:IM}(h:At q w0 (.slice t) ys b o)(hk:∀v,Sl q w0 t ys v→ @SoundI (scrG q w0) P AQ {m with tmps:=putT m.tmps d (.raw v)}):
 @ZldI (scrG q w0) P AQ none b o d m:=by
 obtain ⟨u,h1,h2⟩:=h.sl;refine z5k h.1 h2 fun v hv=> ?_;obtain ⟨A,c,rfl,_⟩:=h1.out;rcases hv with rfl| ⟨_,_,_,h3,_⟩ | ⟨_,_,h3,_⟩
 · exact hk _ h1
 · cases h3
 cases h3
theorem z5w{q:Nat→Prop}{w0:World}{k:IntKind}{b o:Nat}{n:Int}{d:Option Tmp}{m:IM}(hq:q b)(h:w0.cell? ⟨b,o,none⟩=some (.int k n))(hk:∀n:Int, @SoundI (scrG q w0) P AQ {m with tmps:=putT m.tmps d (.raw (.int k n))}):
 @ZldI (scrG q w0) P AQ none b o d m:=by
 refine z5k hq h fun v hv=> ?_;rcases hv with rfl| ⟨_,_,_,h3,rfl⟩ | ⟨_,_,h3,_⟩
 · exact hk _
 · cases h3;exact hk _
 cases h3

theorem j0E{C:Cx}{H:List SObj}{w':World}(hw:Wd C H)(hs:w'.heap.size=C.w.heap.size)(hb:∀b,C.I b∨OwnB C H b→w'.heap[b]?=C.w.heap[b]?)(hz:∀b m,World.bsize C.w b=some m→World.bsize w' b=some m):
 Wd {C with w:=w'} H∧Evo C {C with w:=w'}:=by
 have he:Evo C {C with w:=w'}:=⟨Ae _,fun _ _=>rfl,fun b hI=>⟨hI,hb b (.inl hI)⟩,hz⟩
 refine ⟨⟨hw.n,fun h o ho=> ?_,fun b hb'=> ?_,hw.inj,fun b hI=> ?_⟩,he⟩
 · by_cases hl:o.live=true
   · exact q0C (C':={C with w:=w'}) he.I h rfl (fun b hb'=>hb b (.inr ⟨h,o,ho,hl,hb'⟩)) (q0f he) (hw.obj h o ho)
   cases o<;>first|trivial|simp [SObj.live] at hl
 · have:=hw.own b hb';exact ⟨this.1,by rw [hs];exact this.2⟩
 rw [hs];exact hw.imm b hI

theorem j1H{b o:Nat}{w:World}{v:Value}{vs:List Value}{T:TypeId}{fz:Nat×Nat}(h:w.heap[b]?=some (.cells vs.toArray T fz))(hlt:o<vs.length):(w.setCells b o [v]).heap[b]?=some (.cells (vs.set o v).toArray T fz):=by
 rw [q1u [v] o w vs h (by simp;omega)]
 congr 3;unfold splice;rw [Cp,if_pos hlt];simp

theorem j1s{q:Nat→Prop}{w0:World}{b o:Nat}{u v:Value}{d:Option Tmp}{m:IM}(hq:q b)(hc:w0.cell? ⟨b,o,none⟩=some u)(hs:simV u v)(hf:(SV.raw v).flat=some [.raw v])(h1:ones [SV.raw v]=true)
 (hk: @SoundI (scrG q w0) P AQ {m with tmps:=putT m.tmps d .any}): @ZstI (scrG q w0) P AQ 1 b o (.raw v) d m:=by
 refine ⟨[.raw v],hf,rfl,h1,fun E C us hw hg0 hv=> ?_,hk⟩;have hg:SInv q w0 E.toEn C m.heap:=hg0.2;clear hg0;generalize m.heap=H at*;obtain ⟨v',us',rfl,hv',hn⟩:=q0c.1 hv;rw [q0p] at hn;subst hn;rw [SV.den] at hv';subst hv';obtain ⟨h0,g1,g2,g3,g4,g5⟩:=hg b hq;obtain ⟨u',hc',hs'⟩:=z3c g5 hc
 -- the block as it lies now
 have hcells:∃ (vs:List Value) (T:TypeId) (fz:Nat×Nat),C.w.heap[b]?=some (.cells vs.toArray T fz):=by
  unfold World.cell? at hc';split at hc'
  · rename_i c T fz h;exact ⟨c.toList,T,fz,by simpa using h⟩
  cases hc'
 obtain ⟨vs,T,fz,hcell⟩:=hcells;rw [q0g hcell] at hc';have hlt:o<vs.length:=(Aa.1 hc').1;have hnew:=j1H (v:=v') hcell hlt;have hoth:∀b',b'≠b→(C.w.setCells b o [v']).heap[b']?=C.w.heap[b']?:=fun b' e=>q0z e _ _ _;have hfar:∀b',C.I b'∨OwnB C H b'→b'≠b:=fun b' h e=>by subst e;exact h.elim g2 g3
 have hszw:(C.w.setCells b o [v']).heap.size=C.w.heap.size:=q1c _ _ _;have hbs:∀b' m,World.bsize C.w b'=some m→World.bsize (C.w.setCells b o [v']) b'=some m:=fun b' m hm=>by
  by_cases e:b'=b
  · subst e;unfold World.bsize at hm⊢;rw [hnew];rw [hcell] at hm;simpa using hm
  unfold World.bsize at hm⊢;rw [hoth b' e];exact hm
 obtain ⟨k1,k2⟩:=j0E hw hszw (fun b' h=>hoth b' (hfar b' h)) hbs;have hsim:simB (w0.heap[b]?) ((C.w.setCells b o [v']).heap[b]?):=by
  rw [hnew];rcases g5 with g5| ⟨ws,ws',T',fz',e1,e2,e3,e4⟩
  · rw [hcell] at g5;refine .inr ⟨vs,vs.set o v',T,fz,g5.symm,rfl,by simp,fun i x y hx hy=> ?_⟩
    by_cases e:o=i
    · subst e;rw [Ar hlt] at hy;cases hy;have hu:u=x:=by
       rw [World.cell?_of_block (a:=⟨b,o,none⟩) (w:=C.w) (by rw [hcell];exact g5.symm),q0g hcell,hx] at hc
       exact (Option.some.inj hc).symm
      exact hu▸hs
    rw [Aq e,hx] at hy;cases hy;exact .inl rfl
  rw [hcell] at e2;cases e2;refine .inr ⟨ws,vs.set o v',T,fz,e1,rfl,by simpa using e3,fun i x y hx hy=> ?_⟩
  by_cases e:o=i
  · subst e;rw [Ar hlt] at hy;cases hy;rw [q0g e1,hx] at hc;cases hc;exact hs
  rw [Aq e] at hy;exact e4 i x y hx hy
 refine ⟨vs,T,fz,hcell,by simp;omega,fun j hj=> ?_,k1, @Stp.mk (scrG q w0) E C H _ H k2 (fun hx=> ?_) (fun hx0=>⟨⟨hx0.1.tab.keep k2.I fun b' hT hb' ho=>⟨by show _< (C.w.setCells b o [v']).heap.size;rw [hszw];exact hb',ho,hoth b' fun e=>by subst e;exact h0.2 hT⟩,hx0.1.old⟩,fun b' hb'=> ?_⟩)⟩
 · have:=g4 _ _ _ hcell (o+j) (by simp at hj⊢;omega)
   exact this
 · have hEb:∀b',b'<E.C.w.heap.size→¬OwnB E.C E.H b'→b'≠b:=fun b' h1 h2 e=>by subst e;exact h0.1.elim (fun x=>absurd h1 (AG.2 x)) h2
   exact ⟨hx.evo.trans k2,by show _≤(C.w.setCells b o [v']).heap.size;rw [hszw];exact hx.size,(q1D _ _ _).trans hx.os,(q1f _ _ _).trans hx.tape,(q0T _ _ _).trans hx.output,
    fun b' h1 h2=>(hoth b' (hEb b' h1 h2)).trans (hx.frame b' h1 h2),fun b' hb'=>orMap (hx.immNew b' hb') id fun ⟨x,y⟩=>⟨x,y.keep (hoth b' (hfar b' (.inl hb')))⟩,hx.ownNew,hx.keep0⟩
 have hx:SInv q w0 E.toEn C H:=hx0.2;obtain ⟨a0,a1,a2,a3,a4,a5⟩:=hx b' hb';refine ⟨a0,by show _< (C.w.setCells b o [v']).heap.size;rw [hszw];exact a1,a2,a3,?_,?_⟩
 · by_cases e:b'=b
   · subst e;intro c' T' fz' hc2 i hi;simp only at hc2;rw [hnew] at hc2;cases hc2;exact g4 _ _ _ hcell i (by simpa using hi)
   exact a4.keep (hoth b' e)
 by_cases e:b'=b
 · subst e;exact hsim
 show simB _ ((C.w.setCells b o [v']).heap[b']?);rw [hoth b' e];exact a5
theorem z6B{q:Nat→Prop}{w0:World}{k:IntKind}{b o:Nat}{n n':Int}{d:Option Tmp}{m:IM}(hq:q b)(h:w0.cell? ⟨b,o,none⟩=some (.int k n))(hk: @SoundI (scrG q w0) P AQ {m with tmps:=putT m.tmps d .any}):
 @ZstI (scrG q w0) P AQ 1 b o (.raw (.int k n')) d m:=j1s hq h (.inr (.inl ⟨_,_,_,rfl,rfl⟩)) rfl rfl hk
theorem zldF{q:Nat→Prop}{w0:World}{t:Ty}{x:t.den}{b o:Nat}{d:Option Tmp}{m:IM}(h:At q w0 t x b o)(hk:∀vs,t.rel q w0 x vs→ @SoundI (frzG q w0) P AQ {m with tmps:=putT m.tmps d (.agg (rawL vs))}):
 @ZldI (frzG q w0) P AQ (some t.size) b o d m:=by
 obtain ⟨hq,vs,hr,hc⟩:=h;rintro E C _ ⟨_,hg⟩;have hl:(rawL vs).length=t.size:=by rw [rawL,A5];exact t.rel_size _ _ hr
 refine ⟨.agg (rawL vs),.inl ⟨rawL vs,vs,q1e _,fun j u hj=> ?_,?_⟩,hk vs hr⟩
 · rw [World.cell?_of_block (a:=⟨b,o+j,none⟩) (hg b hq).2.2.2];exact hc j u hj
 simp only [pick,Ac,hl,Ae,if_true,Au,Option.some.injEq,SV.agg.injEq];rw [←hl,Az]
end Go.Sx
namespace Go.Sx
open Go

variable {P:Program} {AQ:Ex→List SV→List SObj→Prop} {k0:Nat} {k:List IT} {t:List SV} {H:List SObj}

theorem z6z{f:FuncId}{fi:FI}(h:finfo P f=some fi):∃fn c,P.funcs[f]?=some fn∧fn.body=some c∧comp P c=some fi.code∧fn.ntmps=fi.ntmps∧fn.results.toList=fi.results∧enters P f=true:=by
 unfold finfo at h;split at h
 · rename_i fn hf;split at h
   · rename_i c hb;split at h
     · rename_i ic hc;split at h
       · cases h
       rename_i hn;cases h;exact ⟨fn,c,hf,hb,hc,rfl,rfl,by simp [enters,hf,hb];simpa using hn⟩
     cases h
   cases h
 cases h
theorem z9L[Ghost]{f:FuncId}{fi:FI}{args:List SV}{K:Out→List SObj→Prop}{E:EnD}{C:Cx}{vs:List Value}(h:finfo P f=some fi)(hE:E.base= [])(hn:E.C.n≤H.length)(hw:Wd C H)(hx:Ext E C H)(hg:Ghost.inv E C H)
 (J:Cx→List SObj→Prop)(hJ:LeaveOk E J)
 (hv:SV.denL C args vs)(hs:SoundI P (retF P fi.results K) ⟨H.length,[.ic fi.code],args++List.replicate (fi.ntmps-args.length) .any,H⟩):
 Calls P f vs.toArray C.w fun e w'=>∃o H' C',K o H'∧C'.w=w'∧Wd C' H'∧Ext E C' H'∧J C' H'∧outDen C' o e:=by
 obtain ⟨fn,c,hf,hb,hc,h1,h2,_⟩:=z6z h;have hq:retQ P fn K=retF P fi.results K:=by rw [←h2];funext e t H;cases e<;>rfl
 exact q4u hf hb hE hn hw hx hg J hJ hv (by rw [hq,h1];exact q0e hs ⟨c,[],rfl,hc,rfl⟩)

def VCallZ(q:Nat→Prop)(w0:World)(P:Program)(f:FuncId)(args:List SV)(H:List SObj)(K:Out→List SObj→Prop):Prop:=
 ∀ (C:Cx) (vs:List Value),Wd C H→TabT C H→ZInv q w0 C H→SV.denL C args vs→Calls P f vs.toArray C.w fun e w'=>∃o H' C',K o H'∧C'.w=w'∧Wd C' H'∧Ext ⟨C,H⟩ C' H'∧outDen C' o e
def VCZ(q:Nat→Prop)(w0:World)(P:Program)(f:FuncId)(args:List SV)(H:List SObj)(K:Out→List SObj→Prop):Prop:=enters P f=true∧VCallZ q w0 P f args H K
theorem VCallZ.g{q:Nat→Prop}{w0:World}{f:FuncId}{args:List SV}{K:Out→List SObj→Prop}(h:VCallZ q w0 P f args H K): @VCallG (frzG q w0) P f args H K:=
 fun E C vs hw hg hv=>(h C vs hw hg.1.tab hg.2 hv).mono fun _ _ ⟨o,H',C',k,e,w,x,r⟩=>⟨o,H',C',k,e,w, @Stp.of (frzG q w0) E C C' H H' x,r⟩
theorem z0B{q:Nat→Prop}{w0:World}{f:FuncId}{fi:FI}{args:List SV}{K:Out→List SObj→Prop}(h:finfo P f=some fi)
 (hs: @SoundI (frzG q w0) P (retF P fi.results K) ⟨H.length,[.ic fi.code],args++List.replicate (fi.ntmps-args.length) .any,H⟩):VCZ q w0 P f args H K:=by
 obtain ⟨_,_,_,_,_,_,_,hen⟩:=z6z h;refine ⟨hen,fun C vs hw ht hg hv=> ?_⟩;refine (@z9L P H (frzG q w0) f fi args K ⟨⟨C,H⟩,[]⟩ C vs h rfl (by rw [hw.n];exact Ae _) hw (Ext.refl _ _) ⟨ht.here,hg⟩ (fun _ _=>True) (fun _ _ ds _ _ h=>⟨[],h.1,CW,fun _ h=>by simp at h,trivial⟩) hv hs).mono ?_
 rintro e w' ⟨o,H',C',k1,k2,k3,k4,_,k5⟩;exact ⟨o,H',C',k1,k2,k3,k4,k5⟩
def PCZ(q:Nat→Prop)(w0:World)(P:Program)(f:FuncId)(args:List SV)(s:SV):Prop:=enters P f=true∧∀ (H:List SObj) (K:Out→List SObj→Prop),K (.ret s) H→VCallZ q w0 P f args H K
theorem ZInv.nil{q:Nat→Prop}{w0:World}{C:Cx}(h:ZInv q w0 C H):ZInv q w0 {C with n:=0} []:=fun b hb=>by
 obtain ⟨h1,h2,h3,h4⟩:=h b hb;exact ⟨h1,h2,fun ⟨i,o,ho,_⟩=>by simp at ho,h4⟩
theorem q3d{q:Nat→Prop}{w0:World}{f:FuncId}{args:List SV}{s:SV}(ha:SV.cleanL args=true)(hs:s.clean=true)(h:VCZ q w0 P f args [] (SealK s)):PCZ q w0 P f args s:=
 ⟨h.1,fun H K hk C vs hw ht hg hv=>q7e hs hw (q8h (C:={C with n:=0}) hw.nil (h.2 {C with n:=0} vs hw.nil (ht.nil rfl fun _ h=>h) hg.nil (q1n (C:=C) (C':={C with n:=0}) (Keeps.refl _ _) ha hv))) hk⟩
theorem callZ{q:Nat→Prop}{w0:World}{f:FuncId}{args:List SV}{s:SV}{d:Option Tmp}{m:IM}(hp:PCZ q w0 P f args s)(h: @SoundI (frzG q w0) P AQ {m with tmps:=putT m.tmps d s}): @CallI (frzG q w0) P AQ f args d m:=
 ⟨hp.1,(hp.2 _ _ h).g⟩

def Ty.flat:Ty→Bool
 |.slice _=>false
 |.prod a b=>a.flat&& b.flat
 |.arr _ t=>t.flat
 |.ptr _=>false
 |.clo _ _=>false
 |.clp _ _=>false
 |.mbs _=>false
 |_=>true
theorem Ty.rel_flat{I I':Nat→Prop}{w w':World}:∀ (t:Ty) (x:t.den) (vs:List Value),t.flat=true→t.rel I w x vs→t.rel I' w' x vs
 |.u8,_,_,_,h=>h
 |.int _,_,_,_,h=>h
 |.bool,_,_,_,h=>h
 |.str,_,_,_,h=>h
 |.slice t,_,_,hf,_=>by cases hf
 |.prod a b,x,vs,hf,h=>by
  obtain ⟨v1,v2,rfl,h1,h2⟩:=h;simp only [Ty.flat,Aj] at hf;exact ⟨v1,v2,rfl,a.rel_flat _ _ hf.1 h1,b.rel_flat _ _ hf.2 h2⟩
 |.unit,_,_,_,h=>h
 |.arr n t,xs,vs,hf,h=>by
  obtain ⟨hn,vss,rfl,hl,h⟩:=h;exact ⟨hn,vss,rfl,hl,fun i x us hx hu=>t.rel_flat _ _ hf (h i x us hx hu)⟩
 |.ptr t,_,_,hf,_=>by cases hf
 |.clo _ t,_,_,hf,_=>by cases hf
 |.clp _ t,_,_,hf,_=>by cases hf
 |.mbs t,_,_,hf,_=>by cases hf
def Cx.lend(C:Cx)(q:Nat→Prop):Cx:={C with I:=fun b=>C.I b∨q b,n:=0}
theorem j2H{q:Nat→Prop}{w0:World}{C:Cx}(hw:Wd C H)(hg:ZInv q w0 C H):Wd (C.lend q) [] where
 n:=rfl
 obj:=fun h o ho=>by simp at ho
 own:=fun b ⟨h,o,ho,_⟩=>by simp at ho
 inj:=fun h h' o o' b ho=>by simp at ho
 imm:=fun b hb=>hb.elim (hw.imm b) fun h=>(hg b h).1
theorem z9e{q:Nat→Prop}{w0:World}{C:Cx}(hg:ZInv q w0 C H){t:Ty}{x:t.den}{vs:List Value}(h:t.rel q w0 x vs):t.rel (C.lend q).I (C.lend q).w x vs:=
 Ty.rel_keep (fun b hb=>⟨.inr hb,(hg b hb).2.2.2⟩) _ _ _ h
def LendA(q:Nat→Prop)(w0:World)(args args':List SV):Prop:=∀ (C:Cx) (H:List SObj) (vs:List Value),ZInv q w0 C H→SV.denL C args vs→SV.denL (C.lend q) args' vs
theorem z9I{q:Nat→Prop}{w0:World}:LendA q w0 [] []:=fun _ _ _ _ h=>by rw [q0p] at h⊢;exact h
theorem j3n{q:Nat→Prop}{w0:World}{t:Ty}{xs:List t.den}{v:Value}{l l':List SV}(hv:Sl q w0 t xs v)(h:LendA q w0 l l'):LendA q w0 (.raw v :: l) (.isl t xs :: l'):=fun C H vs hg hd=>by
 obtain ⟨u,us,rfl,h1,h2⟩:=q0c.1 hd;rw [SV.den] at h1;subst h1;exact q0c.2 ⟨_,us,rfl,by rw [SV.den];exact z9e hg hv,h C H us hg h2⟩
theorem z7w{q:Nat→Prop}{w0:World}{s:SV}{l l':List SV}(hc:s.clean=true)(h:LendA q w0 l l'):LendA q w0 (s :: l) (s :: l'):=fun C H vs hg hd=>by
 obtain ⟨u,us,rfl,h1,h2⟩:=q0c.1 hd;exact q0c.2 ⟨_,us,rfl,q0D (C:=C) (C':=C.lend q) (fun b hb=>⟨.inl hb,rfl⟩) hc h1,h C H us hg h2⟩

theorem z9Y{q:Nat→Prop}{w0:World}{C C1:Cx}{H1:List SObj}(hw:Wd C H)(hx:Ext ⟨C.lend q,[]⟩ C1 H1):
 Wd {C with w:=C1.w} H∧Ext ⟨C,H⟩ {C with w:=C1.w} H:=by
 have hold:∀b,b<C.w.heap.size→C1.w.heap[b]?=C.w.heap[b]?:=fun b hb=>hx.frame b hb (fun ⟨h,o,ho,_⟩=>by simp at ho)
 exact z6f hw hx.size hold hx.os hx.tape hx.output

theorem runZ{q:Nat→Prop}{w0:World}{f:FuncId}{fi:FI}{args:List SV}{K:Out→List SObj→Prop}{r:Prop}(hm:P.follows .mixedOrders=true)(hf:finfo P f=some fi)(h:r)
 (e: @run (frzG q w0) P (retF P fi.results K) 600 ⟨H.length,[.ic fi.code],args++List.replicate (fi.ntmps-args.length) .any,H⟩=r:=by (simp (maxSteps:=3000000) only [go_sem,↓zA,↓reduceIte,↓reduceDIte];(try simp only [zB]);rfl)):VCZ q w0 P f args H K:=z0B hf (@q0r (frzG q w0) P _ hm 600 _ (Eq.mpr e h))
theorem Ty.cells_rel{C:Cx}:∀ (t:Ty) (x:t.den) (vs:List Value),t.known=true→t.ok x→SV.denL C (t.cells x) vs→t.rel C.I C.w x vs
 |.u8,_,_,_,_,h=>by simp only [Ty.cells,SV.denL,SV.den] at h;obtain ⟨v,us,rfl,rfl,rfl⟩:=h;rfl
 |.int _,_,_,_,_,h=>by simp only [Ty.cells,SV.denL,SV.den] at h;obtain ⟨v,us,rfl,rfl,rfl⟩:=h;rfl
 |.bool,_,_,_,_,h=>by simp only [Ty.cells,SV.denL,SV.den] at h;obtain ⟨v,us,rfl,rfl,rfl⟩:=h;rfl
 |.str,_,_,_,ho,h=>by simp only [Ty.cells,SV.denL,SV.den] at h;obtain ⟨v,us,rfl,rfl,rfl⟩:=h;exact ⟨rfl,ho⟩
 |.slice t,_,_,_,_,h=>by simp only [Ty.cells,SV.denL,SV.den] at h;obtain ⟨v,us,rfl,h,rfl⟩:=h;exact h
 |.prod a b,x,vs,hk,ho,h=>by
  simp only [Ty.known,Aj] at hk;obtain ⟨v1,v2,rfl,h1,h2⟩:=q0x.1 h;exact ⟨v1,v2,rfl,a.cells_rel _ _ hk.1 ho.1 h1,b.cells_rel _ _ hk.2 ho.2 h2⟩
 |.unit,_,_,_,_,h=>by simpa [Ty.cells,SV.denL,Ty.rel] using h
 |.arr n t,xs,vs,hk,ho,h=>by
  replace hk:t.known=true:=hk;obtain ⟨hn,ho⟩:=ho;refine ⟨hn,?_⟩;simp only [Ty.cells] at h;rw [←hn] at h;clear hn;have key:∀ (ys:List t.den) (vs:List Value),(∀x∈ys,t.ok x)→SV.denL C ((List.range ys.length).flatMap fun i=>t.cells (ys.getD i t.dflt)) vs→∃vss:List (List Value),vs=vss.flatten∧vss.length=ys.length∧∀ (i:Nat) x us,ys[i]?=some x→vss[i]?=some us→t.rel C.I C.w x us:=by
   intro ys;induction ys with
   |nil=>intro vs _ h;exact ⟨[],by simpa [q0p] using h,rfl,fun i x us hx=>by simp at hx⟩
   |cons y ys ih=>
    intro vs ho h;rw [AB,BT,B1,List.flatMap_map] at h;obtain ⟨v1,v2,rfl,h1,h2⟩:=q0x.1 h;obtain ⟨vss,rfl,hl,hr⟩:=ih v2 (fun x hx=>ho x (AW _ hx)) h2;refine ⟨v1 :: vss,rfl,by simp [hl],fun i x us hx hu=> ?_⟩
    cases i with
    |zero=>simp at hx hu;subst hx hu;exact t.cells_rel _ _ hk (ho _ (Cm ..)) h1
    |succ i=>exact hr i x us (by simpa using hx) (by simpa using hu)
  exact key xs vs ho h
 |.ptr t,x,vs,_,ho,h=>by
  cases x with
  |none=>
   simp only [Ty.cells,SV.denL,SV.den] at h;obtain ⟨v,us,rfl,rfl,rfl⟩:=h;exact .inl ⟨rfl,rfl⟩
  |some x=>
   simp only [Ty.cells,SV.denL,SV.den] at h;obtain ⟨v,us,rfl,⟨b,off,ws,rfl,hI,hr,hc⟩,rfl⟩:=h;exact .inr ⟨x,b,off,ws,rfl,by rw [AK],hI,hr,hc⟩
 |.clo f t,x,vs,hk,ho,h=>by
  simp only [Ty.cells,SV.denL,SV.den] at h;obtain ⟨v,us,rfl,⟨v1,v2,rfl,⟨u,ws,rfl,⟨zs,rfl,hz⟩,rfl⟩,rfl⟩,rfl⟩:=h;exact ⟨zs,rfl,t.cells_rel _ _ hk ho hz⟩
 |.clp f t,x,vs,hk,ho,h=>by
  simp only [Ty.cells,SV.denL,SV.den] at h;obtain ⟨v,us,rfl,⟨v1,v2,rfl,rfl,⟨u,ws,rfl,⟨b,off,zs,rfl,hI,hr,hc⟩,rfl⟩⟩,rfl⟩:=h;exact ⟨b,off,zs,by rw [AK],hI,hr,hc⟩
 |.mbs _,_,_,hk,_,_=>by cases hk

end Go.Sx
