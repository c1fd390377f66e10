/- The plain law: the program and the reference tell the same of entries. -/
import Derived.Test.YtmapiojgmbgbgaaGreatDoorVRv
set_option linter.all false
namespace Go.Proofs.YtmapiojgmbgbgaaGreatDoor
open Go Go.Sx Go.Proofs
set_option maxRecDepth 100000
set_option maxHeartbeats 1000000
theorem q5i{α:Type}{l:List α}{d:α}{j:Nat}(h:j<l.length):l.getD j d=l[j]:=by
 rw [Ad,Ab h];rfl
set_option maxHeartbeats 4000000
theorem q8F(n:Nat):(lenS n).length≤4:=by
 unfold lenS;split
 · simp
 split
 · simp
 split<;>simp
theorem q0V(t:UInt8)(l:List (List UInt8)):(elemS t l).length≤l.flatten.length+5:=by
 unfold elemS;split
 · have:=q8F l.flatten.length;simp only [tlv,AB,Af];omega
 simp
theorem q1I(t n:Int)(b:List UInt8):(wrapS t n b).length≤b.length+5:=by
 unfold wrapS;split
 · have:=q0V (byteOf (t+n)) [b];simp only [AD,A0,Ai] at this;exact this
 simp
theorem z9g(v:Int):intSz v≤9:=by
 unfold intSz;cases h:firstN 9 (oneB v) with
 |none=>simp
 |some k=>have:=(q3p h).1;simp;omega
theorem q2c(v:Int):(intS v).length≤14:=by
 unfold intS;split
 · have h1:=q0V 2 [numS v (intSz v)];have h2:=z9g v;simp only [AD,A0,Ai,numS,A5,B2] at h1 h2⊢;omega
 simp
theorem q8u:∀ (l:List UInt8) (v:Nat),l.foldl (fun v c=>v*256+c.toNat) v=v*256^ l.length+beN l
 | [],v=>by simp [beN]
 |x :: l,v=>by
  have h1:=q8u l (v*256+x.toNat);have h2:=q8u l (0*256+x.toNat);simp only [Bl,AB,beN] at*;rw [h1,h2,CF,Nat.add_mul,Be,Ac,Nat.mul_assoc,Ct 256,Nat.add_assoc]
theorem z8j(x:UInt8)(l:List UInt8):beN (x :: l)=x.toNat*256^ l.length+beN l:=by
 have:=q8u l (0*256+x.toNat);rw [Be,Ac] at this;unfold beN at*;rw [Bl,Be,Ac,this]
theorem q0P(v:Int)(m:Nat):(numS v m).length=m:=by simp [numS]
theorem z1x(n:Nat):∀ (m:Nat),m≤9→beN (numS (n:Int) m)=n%256^ m
 |0,_=>by simp [numS,beN,Nat.mod_one]
 |m+1,h=>by
  rw [q7o,z8j,q0P,z1x n m (by omega),q8l n m (by omega),q1m,Nat.mod_pow_succ]
  unfold qN;rw [Ct,Bm]

def sgn1(x:UInt8):Int:=IntKind.i8.wrap (x.toNat:Int)
theorem z9s{x:UInt8}(h:x.toNat<128):sgn1 x=(x.toNat:Int):=by
 unfold sgn1;simp [IntKind.wrap,IntKind.bits,IntKind.signed];omega
def sgn(c:List UInt8):Int:=(c.drop 1).foldl (fun v x=>v*256+ (x.toNat:Int)) (sgn1 (c.getD 0 0))
theorem q9P:∀ (l:List UInt8) (v:Nat),l.foldl (fun (v:Int) (x:UInt8)=>v*256+ (x.toNat:Int)) (v:Int)=((l.foldl (fun v c=>v*256+c.toNat) v:Nat):Int)
 | [],v=>rfl
 |x :: l,v=>by
  have:=q9P l (v*256+x.toNat);simp only [Bl];rw [←this];push_cast;rfl
theorem j2p{x:UInt8}{l:List UInt8}(h:x.toNat<128):sgn (x :: l)=(beN (x :: l):Int):=by
 unfold sgn;rw [Ce,Au,BH,z9s h,q9P];unfold beN;rw [Bl,Be,Ac]
def decInt(c:List UInt8):Option Int:=if 1≤c.length∧c.length≤8∧intS (sgn c)=elemS 2 [c] then some (sgn c) else none
def decTime(c:List UInt8):Option Nat:=if c.length=6∧beN c≤1099511627776 then some (beN c) else none
def decStr(c:List UInt8):Option ByteArray:=some ⟨c.toArray⟩
def decOct(c:List UInt8):Option (List UInt8):=some c
theorem z8y(n:Nat)(h:n≤4611686018427387904):∃c,intS n=tlv 2 c∧c.length≤8∧1≤c.length∧decInt c=some (n:Int)∧beN c=n∧(c.length=8→36028797018963968≤n):=by
 have h7:oneB (n:Int) 7=true:=by
  have:qN n 7≤127:=by unfold qN;exact Nat.div_le_of_le_mul (by omega)
  unfold oneB;rw [q7t,decide_eq_true (show ((qN n 7:Nat):Int)≤127 by omega),decide_eq_true (show (-128:Int)≤(qN n 7:Int) by omega)];rfl
 obtain ⟨k,hk⟩:∃k,firstN 9 (oneB (n:Int))=some k:=by
  cases hf:firstN 9 (oneB (n:Int)) with
  |some k=>exact ⟨k,rfl⟩
  |none=>
   unfold firstN at hf;rw [List.find?_range_eq_none] at hf;have:=hf 7 (by omega)
   rw [h7] at this;cases this
 obtain ⟨_,hk1,hk2⟩:=q3p hk;have hk7:k≤7:=by
  rcases AC 7 k with hl|hl
  · have:=hk2 7 hl;rw [h7] at this;cases this
  exact hl
 have hsz:intSz (n:Int)=k+1:=by unfold intSz;rw [hk];simp;omega
 have hint:intS (n:Int)=tlv 2 (numS n (k+1)):=by
  unfold intS;rw [if_pos (by omega),hsz,q2m (by rw [q0P];omega)]
 have hq:qN n k≤127:=by
  simp only [oneB,q7t,Aj,decide_eq_true_eq] at hk1;omega
 have hlt:n<256^ (k+1):=by
  have h1:n< (qN n k+1)*256^ k:=by
   unfold qN;have:=Nat.lt_mul_div_succ n (show 0<256^ k from Nat.pow_pos (by decide))
   rw [Ct] at this;exact this
  have h2:(qN n k+1)*256^ k≤256*256^ k:=AX _ (by omega)
  rw [CF,Ct];omega
 have hb:beN (numS (n:Int) (k+1))=n:=by rw [z1x n _ (by omega),AL hlt]
 have hs:sgn (numS (n:Int) (k+1))=(n:Int):=by
  rw [q7o,j2p (by rw [q8l n k (by omega),q1m];omega),←q7o,hb]
 refine ⟨numS n (k+1),hint,by rw [q0P];omega,by rw [q0P];omega,?_,hb,fun h8=> ?_⟩
 · unfold decInt;rw [hs,hint,q2m (by rw [q0P];omega),if_pos ⟨by rw [q0P];omega,by rw [q0P];omega,rfl⟩]
 rw [q0P] at h8;have hk6:=hk2 6 (by omega)
 simp only [oneB,q7t,By,decide_eq_false_iff_not] at hk6;have:128≤qN n 6:=by omega
 unfold qN at this;have h9:=(Nat.le_div_iff_mul_le (show 0<256^ 6 by decide)).1 this
 omega
theorem q8a{v:Int}(h:0≤v∧v≤4611686018427387904):∃c,intS v=tlv 2 c∧c.length≤8∧1≤c.length∧decInt c=some v∧(beN c:Int)=v∧(c.length=8→36028797018963968≤v):=by
 obtain ⟨n,rfl⟩:∃n:Nat,v=n:=⟨v.toNat,by omega⟩
 obtain ⟨c,h1,h2,h3,h4,h5,h6⟩:=z8y n (by omega)
 exact ⟨c,h1,h2,h3,h4,by rw [h5],fun h=>by have:=h6 h;omega⟩
def intP:PR Int:=rdP 2 decInt
def octP:PR (List UInt8):=rdP 4 decOct
def timeP:PR Nat:=rdP 24 decTime
def strP:PR ByteArray:=rdP 27 decStr
theorem q8J{v:Int}(h:0≤v∧v≤4611686018427387904)(r:List UInt8):intP (intS v++r)= .ok (v,(intS v).length):=by
 obtain ⟨c,h1,h2,_,h4,_⟩:=q8a h;rw [h1];exact q7c (by omega) h4 r
theorem q7u{t:Int}(h:0≤t∧t≤1099511627776):timeS t=tlv 24 (numS t 6):=by
 unfold timeS;rw [if_pos h,q2m (by rw [q0P];omega)]
theorem z8p{n:Nat}(h:n≤1099511627776)(r:List UInt8):timeP (timeS n++r)= .ok (n,(timeS n).length):=by
 rw [q7u (by omega)]
 refine q7c (by rw [q0P];omega) ?_ r
 unfold decTime;rw [z1x n 6 (by omega),AL (by omega),if_pos ⟨q0P _ _,h⟩]
theorem j2o{b:List UInt8}(h:b.length≤16777215)(r:List UInt8):octP (elemS 4 [b]++r)= .ok (b,(elemS 4 [b]).length):=by
 rw [q2m h];exact q7c h rfl r
theorem z5P{s:ByteArray}(h:s.size≤16777215)(r:List UInt8):strP (elemS 27 [s.data.toList]++r)= .ok (s,(elemS 27 [s.data.toList]).length):=by
 have hl:s.data.toList.length=s.size:=by simp
 rw [q2m (by omega)]
 exact q7c (by omega) (by unfold decStr;simp) r
theorem full{α:Type}{p:PR α}{v:α}{e:List UInt8}(h:∀r,p (e++r)= .ok (v,e.length)):p e= .ok (v,e.length):=by have:=h [];rwa [Ai] at this

theorem q5U{α:Type}{tag:UInt8}{dec:List UInt8→Option α}{r:List UInt8}{v:α}{k:Nat}(h:rdP tag dec r= .ok (v,k)):takeE tag r=0∧dec (takeC r)=some v∧k=takeN r:=by
 unfold rdP at h;split at h
 · split at h
   · cases h;exact ⟨by assumption,by assumption,rfl⟩
   cases h
 cases h
theorem z0Z{α:Type}{tag:UInt8}{dec:List UInt8→Option α}{r:List UInt8}{e:Nat}(h:rdP tag dec r= .error e):(takeE tag r=0∧dec (takeC r)=none∧e=6)∨(takeE tag r≠0∧e=takeE tag r):=by
 unfold rdP at h;split at h
 · split at h
   · cases h
   cases h;exact .inl ⟨by assumption,by assumption,rfl⟩
 cases h;exact .inr ⟨by assumption,rfl⟩
theorem j0t{α:Type}{tag:UInt8}{dec:List UInt8→Option α}{r:List UInt8}{v:α}{k:Nat}(h:rdP tag dec r= .ok (v,k)):k≤r.length:=by
 obtain ⟨h1,_,rfl⟩:=q5U h;exact q6h h1
theorem z5R(v:Int)(c:Nat)(hv: -36028797018963968≤v∧v<36028797018963968)(hc:c<256):IntKind.i64.wrap ((BitVec.ofInt 64 (v*256) |||BitVec.ofInt 64 ((c:Nat):Int)).toNat:Int)=v*256+c:=by
 obtain ⟨m,hm⟩:∃m:Nat,(BitVec.ofInt 64 (v*256)).toNat=m*256∧((m:Int)*256=v*256∨(m:Int)*256=v*256+18446744073709551616):=by
  refine ⟨((v*256)%18446744073709551616).toNat / 256,?_,?_⟩
  · rw [BitVec.toNat_ofInt];have:(((2^ 64:Nat)):Int)=18446744073709551616:=by decide
    rw [this];omega
  omega
 have h2:(BitVec.ofInt 64 ((c:Nat):Int)).toNat=c:=by rw [AI,AS];exact AL (by omega)
 have h3:m*256|||c=m*256+c:=by
  have:=Cz (b:=c) (i:=8) hc m;rw [Nat.shiftLeft_eq] at this;exact this.symm
 rw [Cl,hm.1,h2,h3];have hw:∀x:Int,IntKind.i64.wrap x=if x%18446744073709551616<9223372036854775808 then x%18446744073709551616 else x%18446744073709551616-18446744073709551616:=fun x=>by
  simp [IntKind.wrap,IntKind.bits,IntKind.signed];split<;>omega
 rw [hw]
 push_cast
 rcases hm.2 with h|h<;>split<;>omega
def sgnK(c:List UInt8)(i:Nat):Int:=((c.drop 1).take i).foldl (fun v x=>v*256+ (x.toNat:Int)) (sgn1 (c.getD 0 0))
theorem z5S(x:UInt8): -128≤sgn1 x∧sgn1 x<128:=by
 have:=x.toNat_lt;unfold sgn1;simp [IntKind.wrap,IntKind.bits,IntKind.signed];omega
theorem z0m{c:List UInt8}{i:Nat}(h:i< (c.drop 1).length):sgnK c (i+1)=sgnK c i*256+ (((c.drop 1).getD i 0).toNat:Int):=by
 unfold sgnK;rw [q0Y (d:=0) h,List.foldl_append];rfl
theorem z5c(c:List UInt8):∀i,i≤(c.drop 1).length→ -(128*256^ i:Nat)≤sgnK c i∧sgnK c i< (128*256^ i:Nat)
 |0,_=>by have:=z5S (c.getD 0 0);simpa [sgnK] using this
 |i+1,h=>by
  have ih:=z5c c i (by omega)
  have hx:=((c.drop 1).getD i 0).toNat_lt;rw [z0m (by omega),CF]
  omega
theorem j1p(a b:List UInt8)(ha:a.length≤140737488355328)(hb:b.length≤140737488355328):PC Tryz.prog 104 [.isl .u8 a,.isl .u8 b] (rB (decide (a=b))):=by
 refine q0w rfl rfl ?_;refine rQ fi104 ?_;exact decide_eq_decide.2 ⟨fun h=>by simpa [strOf] using h,fun h=>by rw [h]⟩
def iVal(c:List UInt8):Int:=if c.length<1∨8<c.length then 0 else sgn c
theorem z4u{c:List UInt8}{v:Int}(h:decInt c=some v):v=iVal c:=by
 unfold decInt at h;split at h
 · rename_i hc;cases h;unfold iVal;rw [if_neg (by omega)]
 cases h
theorem z8N(c:List UInt8):sgnK c (c.drop 1).length=sgn c:=by unfold sgnK sgn;rw [Az]
theorem j0H(c:List UInt8)(hc:c.length≤1099511627776):PC Tryz.prog 187 [.isl .u8 c] (.tup [rI (iVal c),rB (decInt c).isSome]):=by
 refine q0u rfl rfl ?_;refine rQ fi187 ?_;have h0:(c.length<1∨8<c.length)→iVal c=0∧(decInt c).isSome=false:=fun h=>by
  unfold iVal decInt;rw [if_pos h,if_neg (by omega)]
  exact ⟨rfl,rfl⟩
 refine ⟨fun h1=>⟨fun h8=> ?_,fun h8=>⟨by omega,⟨by omega,Ae _⟩,?_⟩⟩,fun h1=> ?_⟩
 · obtain ⟨e1,e2⟩:=h0 (by omega)
   rw [e1,e2];exact ⟨rfl,rfl⟩
 rotate_left
 · obtain ⟨e1,e2⟩:=h0 (by omega)
   rw [e1,e2];exact ⟨rfl,rfl⟩
 have hs1:IntKind.i64.wrap (IntKind.i8.wrap ((c.getD 0 Ty.u8.dflt).toNat:Int))=sgnK c 0:=by
  have:=z5S (c.getD 0 0);show IntKind.i64.wrap (sgn1 (c.getD 0 0))=_;rw [wrapi (by omega)];rfl
 rw [hs1];have htl:List.take c.length c=c:=Az;rw [htl];have hl:(c.drop 1).length=c.length-1:=Ak;generalize hD:c.drop 1=d at*;refine q0Q (fun i=>[(4,rI (sgnK c i)),(23,.raw (.int .i64 ((i:Nat):Int)))]) (d.length) (fun j=>(fun _=>true) j=true) (by first|decide|simp) (fun i=>rfl) ?_ fun i hi hall=> ?_
 · (with_reducible refine sxE ?_<;>try exact True.intro)
   all_goals (try rfl)
 have hwr:=wsx i (by omega)
 refine gQ ?_;have bad:i< (d.length)→(fun _=>true) i=false→allN (d.length) (fun _=>true)=false:=fun hlt hv=>q0l hlt hv;have fin:¬i< (d.length)→allN (d.length) (fun _=>true)=true:=fun h=>q0q fun j hj=>hall j (by omega)
 try dsimp only at bad fin hall
 refine ⟨fun hlt=>⟨⟨by omega,hlt⟩,?_⟩,fun hge=> ?_⟩
 · have hb:=z5c c i (by rw [hD];omega)
   have hp:256^ i≤256^ 6:=Br (by decide) (by omega)
   have hx:(d.getD i Ty.u8.dflt).toNat<256:=B6 _;have e0:sgnK c i*2^ min 8 64=sgnK c i*256:=rfl;have e1:IntKind.i64.wrap (sgnK c i*256)=sgnK c i*256:=wrapi (by omega)
   have e2:IntKind.i64.wrap ((d.getD i Ty.u8.dflt).toNat:Int)=((d.getD i Ty.u8.dflt).toNat:Int):=wrapi (by omega)
   have e3:=z5R (sgnK c i) (d.getD i Ty.u8.dflt).toNat (by omega) hx
   have e4:=z0m (c:=c) (i:=i) (by rw [hD];exact hlt)
   rw [hD] at e4;rw [e0,e1,e2];refine ⟨hlt,trivial,⟨[],rfl⟩,?_⟩;with_reducible refine sx1 hwr ?_
   rw [e4];exact congrArg (Value.int .i64) e3
 obtain rfl:i=d.length:=by omega
 have hall':=z8N c;rw [hD] at hall';rw [hall'];refine cQ (q3M (sgn c)) ?_;refine q0A 0 ?_;with_reducible refine sxE ?_
 refine q0a (q2y 2 2 rfl [c] (by simp)) ?_
 have g1:=q2c (sgn c);have g2:=q0V 2 [c];simp only [AD,A0,Ai] at g2;refine gQ ?_;refine cQ (j1p _ _ (by omega) (by omega)) ?_
 have e1:iVal c=sgn c:=by unfold iVal;rw [if_neg (by omega)]
 have e2:(decInt c).isSome=decide (intS (sgn c)=elemS 2 [c]):=by
  unfold decInt;by_cases h:intS (sgn c)=elemS 2 [c]
  · rw [if_pos ⟨by omega,by omega,h⟩,decide_eq_true h];rfl
  rw [if_neg (fun q=>h q.2.2),decide_eq_false h];rfl
 rw [e1,e2];exact ⟨rfl,rfl⟩
def tVal(c:List UInt8):Nat:=if c.length≠6 then 0 else beN c
theorem z6E(c:List UInt8):PC Tryz.prog 185 [.isl .u8 c] (.tup [rI (tVal c),rB (decTime c).isSome]):=by
 refine q0u rfl rfl ?_;refine rQ fi185 ?_;refine ⟨fun h6=> ?_,fun h6=>q0a (z4p c (by omega)) ?_⟩
 · have e1:tVal c=0:=by unfold tVal;rw [if_pos (by omega)]
   have e2:(decTime c).isSome=false:=by unfold decTime;rw [if_neg (by omega)];rfl
   rw [e1,e2];exact ⟨rfl,rfl⟩
 have e1:tVal c=beN c:=by unfold tVal;rw [if_neg (by omega)]
 have e2:(decTime c).isSome=decide (((beN c:Nat):Int)≤1099511627776):=by
  unfold decTime;by_cases h:beN c≤1099511627776
  · rw [if_pos ⟨by omega,h⟩,decide_eq_true (by omega)];rfl
  rw [if_neg (by omega),decide_eq_false (by omega)];rfl
 rw [e1,e2];refine gQ ?_;trivial
theorem j0v(c:List UInt8)(hc:c.length≤1099511627776):PC Tryz.prog 220 [.isl .u8 c] (.tup [rS ⟨c.toArray⟩,rB true]):=by
 refine q0u rfl rfl ?_;refine rQ fi220 ?_;rfl
theorem j0D(c:List UInt8)(hc:c.length≤1099511627776):PC Tryz.prog 239 [.isl .u8 c] (.tup [.isl .u8 c,rB true]):=by
 refine q0u rfl rfl ?_;refine rQ fi239 ?_;refine cQ (q9J c (by omega)) ?_;trivial
theorem z1I{c:List UInt8}{v:Nat}(h:decTime c=some v):v=tVal c:=by
 unfold decTime at h;split at h
 · rename_i hc;cases h;unfold tVal;rw [if_neg (by omega)]
 cases h
theorem q1r{b:List UInt8}{n:Nat}(hb:b.length≤1099511627776):(takeC (b.drop n)).length≤1099511627776:=by
 have:=q7f (b.drop n);rw [Ak] at this;omega
theorem z1S(b:List UInt8)(n:Nat)(hn:n≤b.length)(hb:b.length≤1099511627776){v:Int}{k:Nat}(h:intP (b.drop n)= .ok (v,k)):PE Tryz.prog 133 [.ptr 0 0] [rdr b n] (.ret (.tup [(rI) v,rI 0])) [rdr b (n+k)]:=by
 obtain ⟨h1,h2,rfl⟩:=q5U h;have hr:=q6j 187 2 b n hn hb _ _ (j0H (takeC (b.drop n)) (q1r hb)) ⟨_,.inl rfl⟩;rw [if_pos h1,if_pos (by rw [h2];rfl),if_pos ⟨h1,by rw [h2];rfl⟩,←z4u h2] at hr
 refine q0b (Ae _) ?_;refine rQ fi133 ?_;refine eQ [0] (hr) ?_;trivial
theorem z1o(b:List UInt8)(n:Nat)(hn:n≤b.length)(hb:b.length≤1099511627776){e:Nat}(h:intP (b.drop n)= .error e):PE Tryz.prog 133 [.ptr 0 0] [rdr b n] (.ret (.tup [rI 0,rI e])) [rdr b n]:=by
 have hr:=q6j 187 2 b n hn hb _ _ (j0H (takeC (b.drop n)) (q1r hb)) ⟨_,.inl rfl⟩;have hr':PE Tryz.prog 184 [.ptr 0 0,.raw (.int .u8 (2:UInt8).toNat),.fn 187 [] []] [rdr b n] (.ret (.tup [rI 0,rI e])) [rdr b n]:=by
  rcases z0Z h with ⟨h1,h2,rfl⟩ | ⟨h1,rfl⟩
  · rw [if_pos h1,if_neg (by rw [h2];simp),if_neg (fun q=>by rw [h2] at q;simp at q)] at hr
    exact hr
  rw [if_neg h1,if_neg (fun q=>h1 q.1)] at hr;exact hr
 refine q0b (Ae _) ?_;refine rQ fi133 ?_;refine eQ [0] (hr') ?_;trivial
theorem z8g(b:List UInt8)(n:Nat)(hn:n≤b.length)(hb:b.length≤1099511627776){v:Nat}{k:Nat}(h:timeP (b.drop n)= .ok (v,k)):PE Tryz.prog 131 [.ptr 0 0] [rdr b n] (.ret (.tup [(fun v=>rI (v:Nat)) v,rI 0])) [rdr b (n+k)]:=by
 obtain ⟨h1,h2,rfl⟩:=q5U h;have hr:=q6j 185 24 b n hn hb _ _ (z6E (takeC (b.drop n))) ⟨_,.inl rfl⟩;rw [if_pos h1,if_pos (by rw [h2];rfl),if_pos ⟨h1,by rw [h2];rfl⟩,←z1I h2] at hr
 refine q0b (Ae _) ?_;refine rQ fi131 ?_;refine eQ [0] (hr) ?_;trivial
theorem z9l(b:List UInt8)(n:Nat)(hn:n≤b.length)(hb:b.length≤1099511627776){e:Nat}(h:timeP (b.drop n)= .error e):PE Tryz.prog 131 [.ptr 0 0] [rdr b n] (.ret (.tup [rI 0,rI e])) [rdr b n]:=by
 have hr:=q6j 185 24 b n hn hb _ _ (z6E (takeC (b.drop n))) ⟨_,.inl rfl⟩;have hr':PE Tryz.prog 184 [.ptr 0 0,.raw (.int .u8 (24:UInt8).toNat),.fn 185 [] []] [rdr b n] (.ret (.tup [rI 0,rI e])) [rdr b n]:=by
  rcases z0Z h with ⟨h1,h2,rfl⟩ | ⟨h1,rfl⟩
  · rw [if_pos h1,if_neg (by rw [h2];simp),if_neg (fun q=>by rw [h2] at q;simp at q)] at hr
    exact hr
  rw [if_neg h1,if_neg (fun q=>h1 q.1)] at hr;exact hr
 refine q0b (Ae _) ?_;refine rQ fi131 ?_;refine eQ [0] (hr') ?_;trivial
theorem z5h(b:List UInt8)(n:Nat)(hn:n≤b.length)(hb:b.length≤1099511627776){v:ByteArray}{k:Nat}(h:strP (b.drop n)= .ok (v,k)):PE Tryz.prog 182 [.ptr 0 0] [rdr b n] (.ret (.tup [rS v,rI 0])) [rdr b (n+k)]:=by
 obtain ⟨h1,h2,rfl⟩:=q5U h;have hr:=z2O 220 27 b n hn hb _ _ (j0v (takeC (b.drop n)) (q1r hb)) ⟨_,.inl rfl⟩;rw [if_pos h1,if_pos rfl,if_pos ⟨h1,rfl⟩] at hr;cases h2;refine q0b (Ae _) ?_;refine rQ fi182 ?_;refine eQ [0] (hr) ?_;trivial
theorem z5V(b:List UInt8)(n:Nat)(hn:n≤b.length)(hb:b.length≤1099511627776){e:Nat}(h:strP (b.drop n)= .error e):PE Tryz.prog 182 [.ptr 0 0] [rdr b n] (.ret (.tup [.raw (.string ⟨#[]⟩),rI e])) [rdr b n]:=by
 have hr:=z2O 220 27 b n hn hb _ _ (j0v (takeC (b.drop n)) (q1r hb)) ⟨_,.inl rfl⟩;have hr':PE Tryz.prog 219 [.ptr 0 0,.raw (.int .u8 (27:UInt8).toNat),.fn 220 [] []] [rdr b n] (.ret (.tup [.raw (.string ⟨#[]⟩),rI e])) [rdr b n]:=by
  rcases z0Z h with ⟨h1,h2,rfl⟩ | ⟨h1,rfl⟩
  · cases h2
  rw [if_neg h1,if_neg (fun q=>h1 q.1)] at hr;exact hr
 refine q0b (Ae _) ?_;refine rQ fi182 ?_;refine eQ [0] (hr') ?_;trivial
theorem j1C(b:List UInt8)(n:Nat)(hn:n≤b.length)(hb:b.length≤1099511627776){v:List UInt8}{k:Nat}(h:octP (b.drop n)= .ok (v,k)):PE Tryz.prog 214 [.ptr 0 0] [rdr b n] (.ret (.tup [.isl .u8 v,rI 0])) [rdr b (n+k)]:=by
 obtain ⟨h1,h2,rfl⟩:=q5U h;have hr:=q7Z 239 4 b n hn hb _ _ (j0D (takeC (b.drop n)) (q1r hb)) ⟨.bool true,.inr ⟨_,rfl⟩⟩;rw [if_pos h1,if_pos rfl,if_pos ⟨h1,rfl⟩] at hr;cases h2;refine q0b (Ae _) ?_;refine rQ fi214 ?_;refine eQ [0] (hr) ?_;trivial
theorem j1l(b:List UInt8)(n:Nat)(hn:n≤b.length)(hb:b.length≤1099511627776){e:Nat}(h:octP (b.drop n)= .error e):PE Tryz.prog 214 [.ptr 0 0] [rdr b n] (.ret (.tup [.isl .u8 [],rI e])) [rdr b n]:=by
 have hr:=q7Z 239 4 b n hn hb _ _ (j0D (takeC (b.drop n)) (q1r hb)) ⟨.bool true,.inr ⟨_,rfl⟩⟩;have hr':PE Tryz.prog 238 [.ptr 0 0,.raw (.int .u8 (4:UInt8).toNat),.fn 239 [] []] [rdr b n] (.ret (.tup [.isl .u8 [],rI e])) [rdr b n]:=by
  rcases z0Z h with ⟨h1,h2,rfl⟩ | ⟨h1,rfl⟩
  · cases h2
  rw [if_neg h1,if_neg (fun q=>h1 q.1)] at hr;exact hr
 refine q0b (Ae _) ?_;refine rQ fi214 ?_;refine eQ [0] (hr') ?_;trivial
theorem z2I(tag:UInt8)(b:List UInt8)(n:Nat)(hn:n≤b.length)(hb:b.length≤1099511627776)(h:takeE tag (b.drop n)=0):
 PE Tryz.prog 208 [.ptr 0 0,.raw (.int .u8 tag.toNat),.fn 209 [] []] [rdr b n] (.ret (.tup [.ptr 1 0,rI 0])) [rdr b (n+takeN (b.drop n)),rdr (takeC (b.drop n)) 0]:=by
 have ht:=z0z tag b n hn hb;rw [if_pos h,if_pos h,h] at ht;generalize takeC (b.drop n)=c at*;generalize takeN (b.drop n)=k at*;refine q0b (by simp) ?_
 refine rQ fi208 ?_;refine eQ [0] (ht) ?_;refine eQ [] (z2l c) ?_;trivial
theorem z3g(tag:UInt8)(b:List UInt8)(n:Nat)(hn:n≤b.length)(hb:b.length≤1099511627776)(h:takeE tag (b.drop n)≠0):
 PE Tryz.prog 208 [.ptr 0 0,.raw (.int .u8 tag.toNat),.fn 209 [] []] [rdr b n] (.ret (.tup [.raw (.pointer none),rI (takeE tag (b.drop n))])) [rdr b n]:=by
 have ht:=z0z tag b n hn hb;rw [if_neg h,if_neg h] at ht;generalize takeE tag (b.drop n)=e at*;refine q0b (by simp) ?_
 refine rQ fi208 ?_;refine eQ [0] (ht) ?_;exact ⟨fun _=>trivial,fun h0=>absurd (by omega) h⟩
theorem q5m(b:List UInt8)(n:Nat)(hn:n≤b.length)(hb:b.length≤1099511627776)(h:takeE 48 (b.drop n)=0):
 PE Tryz.prog 163 [.ptr 0 0] [rdr b n] (.ret (.tup [.ptr 1 0,rI 0])) [rdr b (n+takeN (b.drop n)),rdr (takeC (b.drop n)) 0]:=by
 have hr:=z2I 48 b n hn hb h;refine q0b (by simp) ?_
 refine rQ fi163 ?_;refine eQ [0] (hr) ?_;trivial
theorem q9F(b:List UInt8)(n:Nat)(hn:n≤b.length)(hb:b.length≤1099511627776)(h:takeE 48 (b.drop n)≠0):
 PE Tryz.prog 163 [.ptr 0 0] [rdr b n] (.ret (.tup [.raw (.pointer none),rI (takeE 48 (b.drop n))])) [rdr b n]:=by
 have hr:=z3g 48 b n hn hb h;refine q0b (by simp) ?_
 refine rQ fi163 ?_;refine eQ [0] (hr) ?_;trivial
theorem z4S{m:Nat}(hm:m≤30):IntKind.u8.wrap (IntKind.i64.wrap (160+ (m:Int)))=((tagB m).toNat:Int):=by
 rw [wrapi (by omega)]
 exact (q5B _).symm
theorem q7h{m:Nat}{r:List UInt8}:nextB m r=true ↔ ¬((r.length:Int)=0)∧((r.getD 0 Ty.u8.dflt).toNat:Int)=((tagB m).toNat:Int):=by
 unfold nextB;simp only [Aj,decide_eq_true_eq,ne_eq];constructor
 · rintro ⟨h1,h2⟩;exact ⟨by omega,by rw [show r.getD 0 Ty.u8.dflt=tagB m from h2]⟩
 rintro ⟨h1,h2⟩;exact ⟨by omega,BY.1 (by exact_mod_cast h2)⟩
theorem z8m{m:Nat}{r:List UInt8}(h:nextB m r=false)(h1:¬((r.length:Int)=0)):¬((r.getD 0 Ty.u8.dflt).toNat:Int)=((tagB m).toNat:Int):=fun h2=>by
 rw [q7h.2 ⟨h1,h2⟩] at h;cases h
theorem q5M(m:Nat)(hm:m≤30)(b:List UInt8)(n:Nat)(hn:n≤b.length)(h:nextB m (b.drop n)=false):
 PE Tryz.prog 188 [.ptr 0 0,rI m] [rdr b n] (.ret (.tup [.raw (.pointer none),rB false,rI 0])) [rdr b n]:=by
 have hr:=z1e b n hn;have hu:=z4S hm;have hx:=z8m h;generalize b.drop n=r at*;refine q0b (by simp) ?_
 refine rQ fi188 ?_;refine ⟨fun _=>⟨fun h30=>absurd h30 (by omega),fun _=> ?_⟩,fun hneg=>by exfalso;omega⟩
 refine q0K [0] (hr) rfl (by decide) (by repeat first|exact trivial|exact rfl|refine And.intro ?_ ?_) rfl rfl ?_
 simp only [afterO,Out.ren,SV.ren,mgA,sig,SObj.ren,SV.renL,List.set,List.map,Ai,hu];refine gy1 hu ?_;exact ⟨fun h0=>⟨by omega,fun _=>trivial,fun h1=>absurd h1 (hx h0)⟩,fun _=>trivial⟩
theorem q4l(m:Nat)(hm:m≤30)(b:List UInt8)(n:Nat)(hn:n≤b.length)(hb:b.length≤1099511627776)(h:nextB m (b.drop n)=true)(ht:takeE (tagB m) (b.drop n)=0):
 PE Tryz.prog 188 [.ptr 0 0,rI m] [rdr b n] (.ret (.tup [.ptr 1 0,rB true,rI 0])) [rdr b (n+takeN (b.drop n)),rdr (takeC (b.drop n)) 0]:=by
 have hr:=z1e b n hn;have hd:=z2I (tagB m) b n hn hb ht;have hu:=z4S hm;obtain ⟨hx1,hx2⟩:=q7h.1 h;generalize takeC (b.drop n)=c at*;generalize takeN (b.drop n)=k at*;generalize b.drop n=r at*;refine q0b (by simp) ?_
 refine rQ fi188 ?_;refine ⟨fun _=>⟨fun h30=>absurd h30 (by omega),fun _=> ?_⟩,fun hneg=>by exfalso;omega⟩
 refine q0K [0] (hr) rfl (by decide) (by repeat first|exact trivial|exact rfl|refine And.intro ?_ ?_) rfl rfl ?_
 simp only [afterO,Out.ren,SV.ren,mgA,sig,SObj.ren,SV.renL,List.set,List.map,Ai,hu];refine gy1 hu ?_;refine ⟨fun h0=>⟨by omega,fun h1=>absurd hx2 h1,fun _=> ?_⟩,fun h0=>absurd h0 hx1⟩
 refine eQ [0] (hd) ?_;trivial
theorem q7d(m:Nat)(hm:m≤30)(b:List UInt8)(n:Nat)(hn:n≤b.length)(hb:b.length≤1099511627776)(h:nextB m (b.drop n)=true)(ht:takeE (tagB m) (b.drop n)≠0):
 PE Tryz.prog 188 [.ptr 0 0,rI m] [rdr b n] (.ret (.tup [.raw (.pointer none),rB false,rI (takeE (tagB m) (b.drop n))])) [rdr b n]:=by
 have hr:=z1e b n hn;have hd:=z3g (tagB m) b n hn hb ht;have hu:=z4S hm;obtain ⟨hx1,hx2⟩:=q7h.1 h;generalize takeE (tagB m) (b.drop n)=e at*;generalize b.drop n=r at*;refine q0b (by simp) ?_
 refine rQ fi188 ?_;refine ⟨fun _=>⟨fun h30=>absurd h30 (by omega),fun _=> ?_⟩,fun hneg=>by exfalso;omega⟩
 refine q0K [0] (hr) rfl (by decide) (by repeat first|exact trivial|exact rfl|refine And.intro ?_ ?_) rfl rfl ?_
 simp only [afterO,Out.ren,SV.ren,mgA,sig,SObj.ren,SV.renL,List.set,List.map,Ai,hu];refine gy1 hu ?_;refine ⟨fun h0=>⟨by omega,fun h1=>absurd hx2 h1,fun _=> ?_⟩,fun h0=>absurd h0 hx1⟩
 refine eQ [0] (hd) ?_;exact fun q=>ht (by omega)
end Go.Proofs.YtmapiojgmbgbgaaGreatDoor
namespace Go.Sx
open Go
variable [Ghost] {P:Program} {AQ:Ex→List SV→List SObj→Prop} {k0:Nat} {k:List IT} {t:List SV} {H:List SObj}

structure Cln (cs:List SV):Prop where
 ren:∀σ,SV.renL σ cs=cs
 bel:∀n,SV.belL n cs=true
 shut:∀n H,SV.sealBL n H cs=some (cs,True)
 le:SV.leAL cs cs
theorem q3a:Cln []:=⟨fun _=>by rw [SV.renL],fun _=>by rw [SV.belL],fun _ _=>by rw [SV.sealBL],by rw [q6u];trivial⟩
theorem q0o{v:Value}{cs:List SV}(h:Cln cs):Cln (.raw v :: cs):=
 ⟨fun σ=>by rw [SV.renL,h.ren,SV.ren],fun n=>by rw [SV.belL,h.bel,SV.bel];rfl,fun n H=>by rw [SV.sealBL,h.shut,SV.sealB];simp,by rw [q1z];exact ⟨by rw [q8Q],h.le⟩⟩
theorem q2k{t:Ty}{xs:List t.den}{cs:List SV}(h:Cln cs):Cln (.isl t xs :: cs):=
 ⟨fun σ=>by rw [SV.renL,h.ren,SV.ren],fun n=>by rw [SV.belL,h.bel,SV.bel];rfl,fun n H=>by rw [SV.sealBL,h.shut,SV.sealB];simp,by rw [q1z];exact ⟨by rw [q8C],h.le⟩⟩
theorem j1E{cs:List SV}(h:Cln cs):Cln (.any :: cs):=
 ⟨fun σ=>by rw [SV.renL,h.ren,SV.ren],fun n=>by rw [SV.belL,h.bel,SV.bel];rfl,fun n H=>by rw [SV.sealBL,h.shut,SV.sealB];simp,by rw [q1z];exact ⟨by rw [z6G];trivial,h.le⟩⟩
theorem z2G{t:Ty}{x:t.den}{k:Nat}{cs:List SV}(h:Cln cs):Cln (.iptr t x k :: cs):=
 ⟨fun σ=>by rw [SV.renL,h.ren,SV.ren],fun n=>by rw [SV.belL,h.bel,SV.bel];rfl,fun n H=>by rw [SV.sealBL,h.shut,SV.sealB];simp,by rw [q1z];exact ⟨by rw [z3r];exact ⟨rfl,rfl⟩,h.le⟩⟩
theorem j2E{f:Nat}{l cs:List SV}(hl:Cln l)(h:Cln cs):Cln (.fn f [.agg l] [] :: cs):=
 ⟨fun σ=>by rw [SV.renL,h.ren,SV.ren];simp only [SV.renL,SV.ren,hl.ren],fun n=>by rw [SV.belL,h.bel,SV.bel];simp [SV.belL,SV.bel,hl.bel],fun n H=>by rw [SV.sealBL,h.shut,SV.sealB];simp [SV.sealBL,SV.sealB,hl.shut],by rw [q1z];exact ⟨by rw [z5x];exact ⟨rfl,rfl,rfl⟩,h.le⟩⟩
theorem j1Z{f:Nat}{l cs:List SV}(hl:Cln l)(h:Cln cs):Cln (.fn f [] l :: cs):=
 ⟨fun σ=>by rw [SV.renL,h.ren,SV.ren];simp only [SV.renL,hl.ren],fun n=>by rw [SV.belL,h.bel,SV.bel];simp [SV.belL,hl.bel],fun n H=>by rw [SV.sealBL,h.shut,SV.sealB];simp [SV.sealBL,hl.shut],by rw [q1z];exact ⟨by rw [z5x];exact ⟨rfl,rfl,rfl⟩,h.le⟩⟩
theorem z3f{f:Nat→List SV}(hf:∀ (i:Nat) {cs:List SV},Cln cs→Cln (f i++cs)):∀ (l:List Nat) {cs:List SV},Cln cs→Cln (l.flatMap f++cs)
 | [],_,h=>h
 |i :: l,cs,h=>by rw [B1,List.append_assoc];exact hf i (z3f hf l h)
theorem q3I:∀ (t:Ty) (x:t.den) {cs:List SV},Cln cs→Cln (t.cells x++cs)
 |.u8,_,_,h=>q0o h
 |.int _,_,_,h=>q0o h
 |.bool,_,_,h=>q0o h
 |.str,_,_,h=>q0o h
 |.slice _,_,_,h=>q2k h
 |.prod a b,x,_,h=>by rw [Ty.cells,List.append_assoc];exact q3I a x.1 (q3I b x.2 h)
 |.unit,_,_,h=>h
 |.arr n t,xs,cs,h=>by rw [Ty.cells];exact z3f (fun i _ h=>q3I t _ h) _ h
 |.ptr t,some x,_,h=>z2G h
 |.ptr t,none,_,h=>q0o h
 |.clo f t,x,_,h=>j2E (by have:=q3I t x q3a;rwa [Ai] at this) h
 |.clp f t,x,_,h=>j1Z (z2G q3a) h
 |.mbs t,some x,_,h=>q2k h
 |.mbs t,none,_,h=>j1E h
theorem z0l(t:Ty)(x:t.den):Cln (t.cells x):=by have:=q3I t x q3a;rwa [Ai] at this
theorem z4z{n:Nat}{l:List SObj}:sealHL n H l []=True:=by simp [sealHL]
theorem z2g{n:Nat}{o:SObj}{l l':List SObj}:sealHL n H (o :: l) (.dead :: l')=(o.unmarked∧sealHL n H l l'):=by simp [sealHL]
attribute [go_sem] z4z z2g
end Go.Sx
namespace Go.Proofs.YtmapiojgmbgbgaaGreatDoor
open Go Go.Sx Go.Proofs
set_option maxRecDepth 100000
set_option maxHeartbeats 4000000
theorem q3G{α:Type}{tag:UInt8}{p:PR α}{r:List UInt8}:(takeE tag r≠0∧inP tag p r= .error (takeE tag r))∨
 (takeE tag r=0∧∃e,p (takeC r)= .error e∧inP tag p r= .error e)∨
 (takeE tag r=0∧∃v m,p (takeC r)= .ok (v,m)∧m< (takeC r).length∧inP tag p r= .error 6)∨
 (takeE tag r=0∧∃v m,p (takeC r)= .ok (v,m)∧¬m< (takeC r).length∧inP tag p r= .ok (v,takeN r)):=by
 unfold inP allP;by_cases h:takeE tag r=0
 · right;rw [if_pos h];cases hp:p (takeC r) with
   |error e=>exact .inl ⟨h,e,rfl,rfl⟩
   |ok x=>
    obtain ⟨v,m⟩:=x;by_cases hm:m< (takeC r).length
    · exact .inr (.inl ⟨h,v,m,rfl,hm,by simp [hm]⟩)
    exact .inr (.inr ⟨h,v,m,rfl,hm,by simp [hm]⟩)
 exact .inl ⟨h,by rw [if_neg h]⟩
def FitsP{α:Type}(p:PR α):Prop:=∀r v m,p r= .ok (v,m)→m≤r.length
theorem q2o{α:Type}{tag:UInt8}{p:PR α}:FitsP (inP tag p):=fun r v m h=>by
 rcases q3G (tag:=tag) (p:=p) (r:=r) with ⟨_,e⟩ | ⟨_,_,_,e⟩ | ⟨_,_,_,_,_,e⟩ | ⟨h0,_,_,_,_,e⟩ <;>rw [e] at h<;>cases h
 exact q6h h0
theorem q3t{α:Type}{tag:UInt8}{dec:List UInt8→Option α}:FitsP (rdP tag dec):=fun _ _ _ h=>j0t h
theorem q0F{α:Type}{n:Nat}{p:PR α}:FitsP (needP n p):=fun r v m h=>by
 unfold needP at h;split at h
 · exact q2o r v m h
 cases h
theorem q3Q{α:Type}{d:α}{n:Nat}{p:PR α}:FitsP (dfltP d n p):=fun r v m h=>by
 unfold dfltP mayP at h;cases hb:nextB n r with
 |false=>rw [hb] at h;cases h;exact Al _
 |true=>
  rw [hb] at h;cases hp:inP (tagB n) p r with
  |error e=>rw [hp] at h;cases h
  |ok x=>
   obtain ⟨u,k⟩:=x;rw [hp] at h;cases h;exact q2o r _ m hp
theorem q1H{α β:Type}{p:PR α}{f:α→PR β}(hp:FitsP p)(hf:∀v,FitsP (f v)):FitsP (bindP p f):=fun r v m h=>by
 unfold bindP at h;cases h1:p r with
 |error e=>rw [h1] at h;cases h
 |ok x=>
  obtain ⟨u,k⟩:=x;rw [h1] at h;simp only at h;cases h2:f u (r.drop k) with
  |error e=>rw [h2] at h;cases h
  |ok y=>
   obtain ⟨z,l⟩:=y;rw [h2] at h;cases h;have:=hp r _ k h1;have:=hf _ _ _ l h2;rw [Ak] at this;omega
theorem z0Q{α:Type}{v:α}:FitsP (retP v):=fun r u m h=>by cases h;exact Al _
theorem q5k{α:Type}{p:PR α}(hp:FitsP p):∀n,FitsP (listP p n)
 |0,r,v,m,h=>by
  simp only [listP] at h;split at h
  · cases h;exact Al _
  cases h
 |n+1,r,v,m,h=>by
  simp only [listP] at h;split at h
  · cases h;exact Al _
  cases h1:p r with
  |error e=>rw [h1] at h;cases h
  |ok x=>
   obtain ⟨u,k⟩:=x;rw [h1] at h;simp only at h;cases h2:listP p n (r.drop k) with
   |error e=>rw [h2] at h;cases h
   |ok y=>
    obtain ⟨z,l⟩:=y;rw [h2] at h;cases h;have:=hp r _ k h1;have:=q5k hp n _ _ l h2;rw [Ak] at this;omega

theorem z0X{cs:List SV}(h:Cln cs):(∀σ,SV.renL σ cs=cs)∧(∀n,SV.belL n cs=true)∧(∀n H,SV.sealBL n H cs=some (cs,True))∧SV.leAL cs cs:=⟨h.ren,h.bel,h.shut,h.le⟩
theorem z2k{α:Type}{f:α→List SV}(h:∀v,Cln (f v)):(∀v σ,SV.renL σ (f v)=f v)∧(∀v n,SV.belL n (f v)=true)∧(∀v n H,SV.sealBL n H (f v)=some (f v,True))∧∀v,SV.leAL (f v) (f v):=⟨fun v=>(h v).ren,fun v=>(h v).bel,fun v=>(h v).shut,fun v=>(h v).le⟩
theorem q6b{α:Type}{tag:UInt8}{dec:List UInt8→Option α}{r:List UInt8}{e:Nat}(h:rdP tag dec r= .error e):e≠0:=by
 rcases z0Z h with ⟨_,_,rfl⟩ | ⟨h1,rfl⟩
 · decide
 exact h1
theorem z3V{α:Type}{d:α}{n:Nat}{p:PR α}{r:List UInt8}(h:nextB n r=false):dfltP d n p r= .ok (d,0):=q7N h
theorem z2J{α:Type}{d:α}{n:Nat}{p:PR α}{r:List UInt8}(h:nextB n r=true):dfltP d n p r=inP (tagB n) p r:=by
 unfold dfltP mayP;rw [if_pos h];cases inP (tagB n) p r with
 |error e=>rfl
 |ok x=>rfl
end Go.Proofs.YtmapiojgmbgbgaaGreatDoor
namespace Go.Sx
open Go
variable [Ghost] {P:Program} {AQ:Ex→List SV→List SObj→Prop} {k0:Nat} {k:List IT} {t:List SV} {H:List SObj}

def afterR(P:Program)(AQ:Ex→List SV→List SObj→Prop)(d:Option Tmp)(m:IM):Out→List SObj→Prop
 |.ret s,H'=>SoundI P AQ {m with tmps:=putT m.tmps d s,heap:=H'}
 |.pan s,H'=>AQ (.pan s) [] H'
theorem q0G{G:List Nat}{f:FuncId}{args args0:List SV}{H0 H1:List SObj}{o:Out}{d:Option Tmp}{m:IM}(hs:List Nat)(hp:PE P f args0 H0 o H1)(hargs:args=SV.renL (sig hs m.heap.length) args0)(hnd:hs.Nodup)
 (ha:atH (sig hs m.heap.length) m.heap hs H0)(hb:SV.belL H0.length args0=true)(hbh:belH H0.length H0=true)(hG:SameG G m.heap (mgA (sig hs m.heap.length) hs H1 m.heap))
 (h:afterR P AQ d m (o.ren (sig hs m.heap.length)) (mgA (sig hs m.heap.length) hs H1 m.heap)):CallR P AQ G f args d m:=by
 subst hargs;refine ⟨hp.1,VCall.g (VCall.fr hs hnd ha hb hbh hp.2 ?_)⟩;rintro o' H' _ ⟨rfl,rfl⟩;cases o' with
 |ret s=>exact ⟨fun _=>hG,h⟩
 |pan s=>exact h

theorem z7L{C:Cx}{h:Nat}{T:TypeId}{cs cs':List SV}(hw:Wd C H)(hH:H[h]?=some (.cells T cs))(hd:∀vs,SV.denL C cs vs→SV.denL C cs' vs):Wd C (H.set h (.cells T cs'))∧Ext ⟨C,H⟩ C (H.set h (.cells T cs')):=by
 have hget:∀ {i y},(H.set h (.cells T cs'))[i]?=some y→∃y',H[i]?=some y'∧y'.live=y.live∧(i≠h→y'=y):=fun {i y} hy=>by
  by_cases e:i=h
  · subst e;rw [Ar (Aa.1 hH).1] at hy;cases hy;exact ⟨_,hH,rfl,fun hn=>absurd rfl hn⟩
  rw [Aq (Ne.symm e)] at hy;exact ⟨y,hy,rfl,fun _=>rfl⟩
 have hown:∀b,OwnB C (H.set h (.cells T cs')) b→OwnB C H b:=fun b ⟨i,y,hy,hl,hb⟩=>by
  obtain ⟨y',h1,h2,_⟩:=hget hy;exact ⟨i,y',h1,by rw [h2];exact hl,hb⟩
 refine ⟨⟨by rw [A4];exact hw.n,fun i y hy=> ?_,fun b hb=>hw.own b (hown b hb),fun i j y z b hy hz hl hl' hb hb'=> ?_,hw.imm⟩,⟨Evo.refl _,Ae _,rfl,rfl,rfl,fun _ _ _=>rfl,fun _ h=>.inl h,fun b hb=>.inr (hown b hb),fun _ _ hm=>q3P hH rfl hm⟩⟩
 · by_cases e:i=h
   · subst e;rw [Ar (Aa.1 hH).1] at hy;cases hy;obtain ⟨b,vs,h1,h2,h3⟩:=hw.obj i _ hH;exact ⟨b,vs,h1,h2,hd vs h3⟩
   rw [Aq (Ne.symm e)] at hy;exact hw.obj i y hy
 obtain ⟨y',h1,h2,_⟩:=hget hy;obtain ⟨z',h3,h4,_⟩:=hget hz;exact hw.inj i j y' z' b h1 h3 (by rw [h2];exact hl) (by rw [h4];exact hl') hb hb'
theorem q9i{P:Program}{k:List It}{tm:List SV}(h off:Nat)(ty:Ty){T:TypeId}{cs:List SV}(hH:H[h]?=some (.cells T cs))(hi:cs[off]?=some (.raw (.slice none 0 0)))(hs:Sound P AQ ⟨k0,k,tm,(H.set h (.cells T (cs.set off (.bld H.length ty 0))))++ [.row ty []]⟩):Sound P AQ ⟨k0,k,tm,H⟩:=by
 intro E r n C a h0 hd;obtain ⟨C',hw,g1,g2,g3⟩:=q8E (t:=ty) hd.wd;have hH':(H++ [SObj.row ty []])[h]?=some (.cells T cs):=by rw [Ag (Aa.1 hH).1];exact hH
 obtain ⟨q1,q2⟩:=z7L (cs':=cs.set off (.bld H.length ty 0)) g1 hH' (fun vs hv=>by
  obtain ⟨v,hv',hd'⟩:=q1B hv hi;rw [SV.den] at hd';subst hd';have:=q2p (i:=off) hv g3;have he:vs.set off (.slice none 0 0)=vs:=by
   apply Bc;intro j;by_cases e:j=off
   · subst e;rw [Ar (Aa.1 hv').1,hv']
   rw [Aq (Ne.symm e)]
  rwa [he] at this)
 have hset:(H++ [SObj.row ty []]).set h (.cells T (cs.set off (.bld H.length ty 0)))=H.set h (.cells T (cs.set off (.bld H.length ty 0)))++ [.row ty []]:=List.set_append_left _ _ (Aa.1 hH).1;rw [hset] at q1 q2;have:=hs E r n C' a h0 ⟨q1,hd.ext.trans (g2.trans q2),DefOk.next (g2.trans q2) hd.defs,q0f g2.evo hd.tmps⟩
 rw [←hw];exact this
theorem q4c(h off:Nat)(ty:Ty){T:TypeId}{cs:List SV}{td:List IT}(hp:plainT td=true)(hH:H[h]?=some (.cells T cs))(hi:cs[off]?=some (.raw (.slice none 0 0)))(hs:SoundI P AQ ⟨k0,td,t,(H.set h (.cells T (cs.set off (.bld H.length ty 0))))++ [.row ty []]⟩):SoundI P AQ ⟨k0,td,t,H⟩:=
 q0d (fun _ hr=>q9i h off ty hH hi (q0e hs hr)) hp
theorem rnE{p q:Prop}(h:q)(e:p=q:=by (simp only [afterR,Out.ren,SV.ren,mgA,sig,SObj.ren,SV.renL,Ay,As,List.append_assoc,Bj,Bk,List.set,List.map,Ai];rfl)):p:=Eq.mpr e h
end Go.Sx
namespace Go.Proofs.YtmapiojgmbgbgaaGreatDoor
open Go Go.Sx Go.Proofs
set_option maxRecDepth 100000
set_option maxHeartbeats 4000000
def effH{α:Type}(b:List UInt8)(n:Nat)(E:List SObj)(upd:α→List SObj):Except Nat (α×Nat)→List SObj
 |.ok (v,k)=>rdr b (n+k) :: upd v
 |.error _=>.dead :: E.map fun _=>.dead
def tailP{α:Type}(xs:List α)(k:Nat):Except Nat (List α×Nat)→Except Nat (List α×Nat)
 |.ok (l,m)=>.ok (xs++l,k+m)
 |.error e=>.error e
theorem q5t{α:Type}{p:PR α}{most:Nat}{c:List UInt8}{xs:List α}{k n:Nat}{v:α}{m:Nat}(hk:k<c.length)(hm:0<most)(hp:p (c.drop k)= .ok (v,m)):tailP xs n (listP p most (c.drop k))=tailP (xs++ [v]) (n+m) (listP p (most-1) (c.drop (k+m))):=by
 obtain ⟨most,rfl⟩:∃q,most=q+1:=⟨most-1,by omega⟩
 simp only [listP];rw [if_neg (by rw [Ak];omega),hp]
 simp only [BK,Bp];cases listP p most (c.drop (k+m)) with
 |error e=>rfl
 |ok y=>obtain ⟨l,q⟩:=y;simp [tailP];omega
theorem q8g{α:Type}{p:PR α}{c:List UInt8}{xs:List α}{k n:Nat}(hk:k<c.length):tailP xs n (listP p 0 (c.drop k))= .error 6:=by
 simp only [listP];rw [if_neg (by rw [Ak];omega)];rfl
theorem q6E{α:Type}{p:PR α}{most:Nat}{c:List UInt8}{xs:List α}{k n:Nat}{e:Nat}(hk:k<c.length)(hm:0<most)(hp:p (c.drop k)= .error e):tailP xs n (listP p most (c.drop k))= .error e:=by
 obtain ⟨most,rfl⟩:∃q,most=q+1:=⟨most-1,by omega⟩
 simp only [listP];rw [if_neg (by rw [Ak];omega),hp];rfl
theorem q7w{α:Type}{p:PR α}{most:Nat}{c:List UInt8}{xs:List α}{k n:Nat}(hk:c.length≤k):tailP xs n (listP p most (c.drop k))= .ok (xs,n):=by
 have:c.drop k= []:=AY hk;rw [this];cases most<;>simp [listP,tailP]
theorem q9l{α:Type}(x:Except Nat (List α×Nat)):tailP [] 0 x=x:=by
 cases x with
 |error e=>rfl
 |ok y=>obtain ⟨l,m⟩:=y;simp [tailP]
def shiftP{α:Type}(k:Nat):Except Nat (α×Nat)→Except Nat (α×Nat)
 |.ok (v,m)=>.ok (v,k+m)
 |.error e=>.error e
theorem q3S{α β:Type}{p:PR α}{f:α→PR β}{r:List UInt8}{e:Nat}(h:p r= .error e):bindP p f r= .error e:=by unfold bindP;rw [h]
theorem q4M{α β:Type}{p:PR α}{f:α→PR β}{b:List UInt8}{n:Nat}{v:α}{k:Nat}(h:p (b.drop n)= .ok (v,k)):bindP p f (b.drop n)=shiftP k (f v (b.drop (n+k))):=by
 unfold bindP;rw [h];simp only [Bp];cases f v (b.drop (n+k)) with
 |error e=>rfl
 |ok y=>rfl
theorem q2B{α:Type}{p:PR α}(hp:FitsP p){b:List UInt8}{n:Nat}(hn:n≤b.length){v:α}{k:Nat}(h:p (b.drop n)= .ok (v,k)):n+k≤b.length:=by
 have:=hp _ _ _ h;rw [Ak] at this;omega
def OkP{α:Type}(p:PR α)(Q:α→Prop):Prop:=∀r v m,r.length≤1099511627776→p r= .ok (v,m)→Q v
theorem z6e{α:Type}{tag:UInt8}{dec:List UInt8→Option α}{Q:α→Prop}(h:∀c v,c.length≤1099511627776→dec c=some v→Q v):OkP (rdP tag dec) Q:=fun r v m hr hx=>by
 obtain ⟨_,h2,_⟩:=q5U hx;exact h _ v (An (q7f r) hr) h2
theorem q8s{α:Type}{tag:UInt8}{p:PR α}{Q:α→Prop}(h:OkP p Q):OkP (inP tag p) Q:=fun r v m hr hx=>by
 rcases q3G (tag:=tag) (p:=p) (r:=r) with ⟨_,e⟩ | ⟨_,_,_,e⟩ | ⟨_,_,_,_,_,e⟩ | ⟨_,u,k,g,_,e⟩ <;>rw [e] at hx<;>cases hx
 exact h _ _ _ (An (q7f r) hr) g
theorem q3e{α:Type}{n:Nat}{p:PR α}{Q:α→Prop}(h:OkP p Q):OkP (needP n p) Q:=fun r v m hr hx=>by
 unfold needP at hx;split at hx
 · exact q8s h r v m hr hx
 cases hx
theorem z3P{α:Type}{d:α}{n:Nat}{p:PR α}{Q:α→Prop}(hd:Q d)(h:OkP p Q):OkP (dfltP d n p) Q:=fun r v m hr hx=>by
 cases hb:nextB n r with
 |false=>rw [z3V hb] at hx;cases hx;exact hd
 |true=>rw [z2J hb] at hx;exact q8s h r v m hr hx
theorem q1P{α β:Type}{p:PR α}{f:α→PR β}{Q1:α→Prop}{Q:β→Prop}(hp:OkP p Q1)(hf:∀v,Q1 v→OkP (f v) Q):OkP (bindP p f) Q:=fun r v m hr hx=>by
 unfold bindP at hx;cases h1:p r with
 |error e=>rw [h1] at hx;cases hx
 |ok y=>
  obtain ⟨u,k⟩:=y;rw [h1] at hx;simp only at hx;cases h2:f u (r.drop k) with
  |error e=>rw [h2] at hx;cases hx
  |ok z=>
   obtain ⟨w,l⟩:=z;rw [h2] at hx;cases hx;exact hf u (hp r u k hr h1) _ _ _ (by rw [Ak];omega) h2
theorem z1Y{α:Type}{v:α}{Q:α→Prop}(h:Q v):OkP (retP v) Q:=fun r u m _ hx=>by cases hx;exact h
theorem z2E{α:Type}{p:PR α}{Q:α→Prop}(hp:OkP p Q):∀n,OkP (listP p n) fun l=>l.length≤n∧∀x∈l,Q x
 |0,r,v,m,_,hx=>by
  simp only [listP] at hx;split at hx
  · cases hx;exact ⟨Ae _,by simp⟩
  cases hx
 |n+1,r,v,m,hr,hx=>by
  simp only [listP] at hx;split at hx
  · cases hx;exact ⟨by simp,by simp⟩
  cases h1:p r with
  |error e=>rw [h1] at hx;cases hx
  |ok y=>
   obtain ⟨u,k⟩:=y;rw [h1] at hx;simp only at hx;cases h2:listP p n (r.drop k) with
   |error e=>rw [h2] at hx;cases hx
   |ok z=>
    obtain ⟨w,l⟩:=z;rw [h2] at hx;cases hx;have h3:=z2E hp n _ _ _ (by rw [Ak];omega) h2
    exact ⟨by simp;exact h3.1,fun x hxm=>by
     rcases Bz.1 hxm with rfl|hm
     · exact hp r _ k hr h1
     exact h3.2 x hm⟩
theorem q4Z{α:Type}{p:PR α}:OkP p fun _=>True:=fun _ _ _ _ _=>trivial
theorem z5t:OkP strP fun s=>s.size≤1099511627776:=z6e fun c v hc hd=>by
 unfold decStr at hd;cases hd;show c.toArray.size≤_;simpa using hc
theorem j4n(b:List UInt8)(hb:b.length≤140737488355328):PE Tryz.prog 101 [.isl .u8 b] [] (.ret (.ptr 0 0)) [rdr b 0]:=by
 refine q0b (by simp) ?_
 refine rQ fi101 ?_;refine cQ (q9J b hb) ?_;refine eQ [] (z7S b) ?_;trivial
theorem j2l(a b:List UInt8):PC Tryz.prog 104 [.isl .u8 a,.isl .u8 b] (rB (decide (a=b))):=by
 refine q0w rfl rfl ?_;refine rQ fi104 ?_;exact decide_eq_decide.2 ⟨fun h=>by simpa [strOf] using h,fun h=>by rw [h]⟩
@[go_sem] abbrev errV(e:Int):SV:=.iface 36 (rI e)
def EffX(P:Program){α:Type}(f:FuncId)(args:List SV)(b:List UInt8)(n:Nat)(res:α→SV):Except Nat (α×Nat)→Prop
 |.ok (v,k)=>PE P f args [rdr b n] (.ret (res v)) [rdr b (n+k)]
 |.error e=>PE P f args [rdr b n] (.pan (errV e)) [.dead]
theorem q9f{P:Program}{α:Type}{f:FuncId}{args:List SV}{b:List UInt8}{n:Nat}{res:α→SV}{x:Except Nat (α×Nat)}{v:α}{k:Nat}(h:EffX P f args b n res x)(hx:x= .ok (v,k)):PE P f args [rdr b n] (.ret (res v)) [rdr b (n+k)]:=by rw [hx] at h;exact h
theorem q9k{P:Program}{α:Type}{f:FuncId}{args:List SV}{b:List UInt8}{n:Nat}{res:α→SV}{x:Except Nat (α×Nat)}{e:Nat}(h:EffX P f args b n res x)(hx:x= .error e):PE P f args [rdr b n] (.pan (errV e)) [.dead]:=by rw [hx] at h;exact h
theorem q9T(v:Value):PC Tryz.prog 236 [.raw v,rI 0] (.raw v):=by
 refine q0w rfl rfl ?_;refine rQ fi236 ?_;trivial
theorem z0u(v:Value)(e:Nat)(he:e≠0):PE Tryz.prog 236 [.raw v,rI e] [] (.pan (errV e)) []:=by
 refine q0b (by simp) ?_
 refine rQ fi236 ?_;exact ⟨fun _=>trivial,fun h=>absurd (by omega) he⟩
theorem q6G(v:List UInt8):PC Tryz.prog 237 [.isl .u8 v,rI 0] (.isl .u8 v):=by
 refine q0w rfl rfl ?_;refine rQ fi237 ?_;trivial
theorem q7M(v:List UInt8)(e:Nat)(he:e≠0):PE Tryz.prog 237 [.isl .u8 v,rI e] [] (.pan (errV e)) []:=by
 refine q0b (by simp) ?_
 refine rQ fi237 ?_;exact ⟨fun _=>trivial,fun h=>absurd (by omega) he⟩
theorem q6K(v:Value):PC Tryz.prog 181 [.raw v,rI 0] (.raw v):=by
 refine q0w rfl rfl ?_;refine rQ fi181 ?_;trivial
theorem q5T(v:Value)(e:Nat)(he:e≠0):PE Tryz.prog 181 [.raw v,rI e] [] (.pan (errV e)) []:=by
 refine q0b (by simp) ?_
 refine rQ fi181 ?_;exact ⟨fun _=>trivial,fun h=>absurd (by omega) he⟩
theorem z5Y(b:List UInt8)(n:Nat):PE Tryz.prog 211 [.ptr 0 0,rI 0] [rdr b n] (.ret (.ptr 0 0)) [rdr b n]:=by
 refine q0b (by simp) ?_
 refine rQ fi211 ?_;trivial
theorem z0L(e:Nat)(he:e≠0):PE Tryz.prog 211 [.raw (.pointer none),rI e] [] (.pan (errV e)) []:=by
 refine q0b (by simp) ?_
 refine rQ fi211 ?_;exact ⟨fun _=>trivial,fun h=>absurd (by omega) he⟩
theorem q6T(b:List UInt8)(n:Nat):PE Tryz.prog 179 [.ptr 0 0,rI 0] [rdr b n] (.ret (.ptr 0 0)) [rdr b n]:=by
 refine q0b (by simp) ?_
 refine rQ fi179 ?_;trivial
theorem q5V(e:Nat)(he:e≠0):PE Tryz.prog 179 [.raw (.pointer none),rI e] [] (.pan (errV e)) []:=by
 refine q0b (by simp) ?_
 refine rQ fi179 ?_;exact ⟨fun _=>trivial,fun h=>absurd (by omega) he⟩
theorem z7x(b:List UInt8)(n:Nat)(hn:n=b.length):PE Tryz.prog 215 [.ptr 0 0] [rdr b n] (.ret (.tup [])) [rdr b n]:=by
 have he:=q2G b n (by omega)
 refine q0b (by simp) ?_
 refine rQ fi215 ?_;refine eQ [0] (he) ?_;exact ⟨fun q=>absurd q (by omega),fun _=>trivial⟩
theorem z6A(b:List UInt8)(n:Nat)(hn:n<b.length):PE Tryz.prog 215 [.ptr 0 0] [rdr b n] (.pan (errV 6)) [.dead]:=by
 have he:=q2G b n (by omega)
 refine q0b (by simp) ?_
 refine rQ fi215 ?_;refine eQ [0] (he) ?_;exact ⟨fun _=>trivial,fun q=>absurd (by omega) q⟩
theorem q4C{α:Type}{n:Nat}{p:PR α}{r:List UInt8}(h:nextB n r=false):needP n p r= .error (if r.length=0 then 4 else 6):=by unfold needP;rw [h];rfl
theorem q5b{α:Type}{n:Nat}{p:PR α}{r:List UInt8}(h:nextB n r=true):needP n p r=inP (tagB n) p r:=by unfold needP;rw [h];rfl
def closeP{α:Type}(l N:Nat):Except Nat (α×Nat)→Except Nat (α×Nat)
 |.ok (v,m)=>if m<l then .error 6 else .ok (v,N)
 |.error e=>.error e
theorem z4I{α:Type}{tag:UInt8}{p:PR α}{r:List UInt8}(h:takeE tag r=0):inP tag p r=closeP (takeC r).length (takeN r) (p (takeC r)):=by
 unfold inP allP;rw [if_pos h];cases p (takeC r) with
 |error e=>rfl
 |ok x=>
  obtain ⟨v,m⟩:=x;simp only [closeP];by_cases hm:m< (takeC r).length<;>simp [hm]
theorem z4N{α:Type}{tag:UInt8}{p:PR α}{r:List UInt8}(h:takeE tag r≠0):inP tag p r= .error (takeE tag r):=by
 unfold inP;rw [if_neg h]
theorem j0m(i:Nat)(hi:i≤30)(b:List UInt8)(n:Nat)(hn:n≤b.length)(hb:b.length≤1099511627776):EffX Tryz.prog 212 [.ptr 0 0,rI i,.fn 133 [] []] b n (fun v=>rI v) (needP i intP (b.drop n)):=by
 cases h:nextB i (b.drop n) with
 |false=>
  rw [q4C h,Ak];have hs:=q5M i hi b n hn h;have hl:=q2G b n hn;generalize b.length-n=q at*;refine q0b (by simp) ?_
  refine rQ fi212 ?_;refine eQ [0] (hs) ?_;refine eQ [0] (hl) ?_;by_cases hq:q=0
  · simp [hq]
  simp [hq]
 |true=>
  rw [q5b h];by_cases h1:takeE (tagB i) (b.drop n)=0
  · rw [z4I h1];have hs:=q4l i hi b n hn hb h h1;have hc:=q1r (n:=n) hb;generalize takeC (b.drop n)=c at*;generalize takeN (b.drop n)=N at*;cases hx:intP c with
    |error e=>
     have hr:=z1o c 0 (Al _) hc (by rw [Au];exact hx)
     refine q0b (by simp) ?_
     refine rQ fi212 ?_;refine eQ [0] (hs) ?_;refine eQ [1] (hr) ?_;refine effP [] (z0u (.int .i64 0) e (q6b hx)) ?_;trivial
    |ok x=>
     obtain ⟨v,m⟩:=x;have hm:=q3t _ _ _ hx;have hr:=z1S c 0 (Al _) hc (by rw [Au];exact hx)
     have hl:=q2G c m hm;rw [Ac] at hr;simp only [closeP];by_cases hml:m<c.length
     · rw [if_pos hml];refine q0b (by simp) ?_
       refine rQ fi212 ?_;refine eQ [0] (hs) ?_;refine eQ [1] (hr) ?_;refine cQ (q9T _) ?_;refine effP [1] (z6A c m hml) ?_;rfl
     rw [if_neg hml];refine q0b (by simp) ?_
     refine rQ fi212 ?_;refine eQ [0] (hs) ?_;refine eQ [1] (hr) ?_;refine cQ (q9T _) ?_;refine eQ [1] (z7x c m (by omega)) ?_;trivial
  rw [z4N h1];have hs:=q7d i hi b n hn hb h h1;generalize takeE (tagB i) (b.drop n)=e at*;refine q0b (by simp) ?_
  refine rQ fi212 ?_;refine eQ [0] (hs) ?_;exact ⟨fun _=>trivial,fun q=>absurd (by omega) h1⟩
theorem j4h(i:Nat)(hi:i≤30)(b:List UInt8)(n:Nat)(hn:n≤b.length)(hb:b.length≤1099511627776):EffX Tryz.prog 213 [.ptr 0 0,rI i,.fn 214 [] []] b n (fun v=>.isl .u8 v) (needP i octP (b.drop n)):=by
 cases h:nextB i (b.drop n) with
 |false=>
  rw [q4C h,Ak];have hs:=q5M i hi b n hn h;have hl:=q2G b n hn;generalize b.length-n=q at*;refine q0b (by simp) ?_
  refine rQ fi213 ?_;refine eQ [0] (hs) ?_;refine eQ [0] (hl) ?_;by_cases hq:q=0
  · simp [hq]
  simp [hq]
 |true=>
  rw [q5b h];by_cases h1:takeE (tagB i) (b.drop n)=0
  · rw [z4I h1];have hs:=q4l i hi b n hn hb h h1;have hc:=q1r (n:=n) hb;generalize takeC (b.drop n)=c at*;generalize takeN (b.drop n)=N at*;cases hx:octP c with
    |error e=>
     have hr:=j1l c 0 (Al _) hc (by rw [Au];exact hx)
     refine q0b (by simp) ?_
     refine rQ fi213 ?_;refine eQ [0] (hs) ?_;refine eQ [1] (hr) ?_;refine effP [] (q7M [] e (q6b hx)) ?_;trivial
    |ok x=>
     obtain ⟨v,m⟩:=x;have hm:=q3t _ _ _ hx;have hr:=j1C c 0 (Al _) hc (by rw [Au];exact hx)
     have hl:=q2G c m hm;rw [Ac] at hr;simp only [closeP];by_cases hml:m<c.length
     · rw [if_pos hml];refine q0b (by simp) ?_
       refine rQ fi213 ?_;refine eQ [0] (hs) ?_;refine eQ [1] (hr) ?_;refine cQ (q6G _) ?_;refine effP [1] (z6A c m hml) ?_;rfl
     rw [if_neg hml];refine q0b (by simp) ?_
     refine rQ fi213 ?_;refine eQ [0] (hs) ?_;refine eQ [1] (hr) ?_;refine cQ (q6G _) ?_;refine eQ [1] (z7x c m (by omega)) ?_;trivial
  rw [z4N h1];have hs:=q7d i hi b n hn hb h h1;generalize takeE (tagB i) (b.drop n)=e at*;refine q0b (by simp) ?_
  refine rQ fi213 ?_;refine eQ [0] (hs) ?_;exact ⟨fun _=>trivial,fun q=>absurd (by omega) h1⟩
theorem j3u(i:Nat)(hi:i≤30)(b:List UInt8)(n:Nat)(hn:n≤b.length)(hb:b.length≤1099511627776):EffX Tryz.prog 183 [.ptr 0 0,rI i,.fn 182 [] []] b n (fun v=>rS v) (needP i strP (b.drop n)):=by
 cases h:nextB i (b.drop n) with
 |false=>
  rw [q4C h,Ak];have hs:=q5M i hi b n hn h;have hl:=q2G b n hn;generalize b.length-n=q at*;refine q0b (by simp) ?_
  refine rQ fi183 ?_;refine eQ [0] (hs) ?_;refine eQ [0] (hl) ?_;by_cases hq:q=0
  · simp [hq]
  simp [hq]
 |true=>
  rw [q5b h];by_cases h1:takeE (tagB i) (b.drop n)=0
  · rw [z4I h1];have hs:=q4l i hi b n hn hb h h1;have hc:=q1r (n:=n) hb;generalize takeC (b.drop n)=c at*;generalize takeN (b.drop n)=N at*;cases hx:strP c with
    |error e=>
     have hr:=z5V c 0 (Al _) hc (by rw [Au];exact hx)
     refine q0b (by simp) ?_
     refine rQ fi183 ?_;refine eQ [0] (hs) ?_;refine eQ [1] (hr) ?_;refine effP [] (q5T (.string ⟨#[]⟩) e (q6b hx)) ?_;trivial
    |ok x=>
     obtain ⟨v,m⟩:=x;have hm:=q3t _ _ _ hx;have hr:=z5h c 0 (Al _) hc (by rw [Au];exact hx)
     have hl:=q2G c m hm;rw [Ac] at hr;simp only [closeP];by_cases hml:m<c.length
     · rw [if_pos hml];refine q0b (by simp) ?_
       refine rQ fi183 ?_;refine eQ [0] (hs) ?_;refine eQ [1] (hr) ?_;refine cQ (q6K _) ?_;refine eQ [1] (hl) ?_;exact ⟨fun _=>rfl,fun q=>absurd (by omega) q⟩
     rw [if_neg hml];refine q0b (by simp) ?_
     refine rQ fi183 ?_;refine eQ [0] (hs) ?_;refine eQ [1] (hr) ?_;refine cQ (q6K _) ?_;refine eQ [1] (hl) ?_;exact ⟨fun q=>absurd q (by omega),fun _=>trivial⟩
  rw [z4N h1];have hs:=q7d i hi b n hn hb h h1;generalize takeE (tagB i) (b.drop n)=e at*;refine q0b (by simp) ?_
  refine rQ fi183 ?_;refine eQ [0] (hs) ?_;exact ⟨fun _=>trivial,fun q=>absurd (by omega) h1⟩
end Go.Proofs.YtmapiojgmbgbgaaGreatDoor
