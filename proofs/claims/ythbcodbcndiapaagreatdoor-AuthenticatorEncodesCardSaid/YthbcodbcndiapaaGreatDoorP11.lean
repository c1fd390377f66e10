/- The plain law: the program and the reference tell the same of entries. -/
import Derived.Test.YthbcodbcndiapaaGreatDoorPRv
set_option linter.all false
namespace Go.Proofs.YthbcodbcndiapaaGreatDoor
open Go Go.Sx Go.Proofs
set_option maxRecDepth 100000
set_option maxHeartbeats 1000000
set_option maxHeartbeats 4000000
def q2b(n:Nat):(lenS n).length<=4:=by
 unfold lenS;split
 . simp
 split
 . simp
 split<;>simp
def q0n(t:UInt8)(l:List (List UInt8)):(elemS t l).length<=l.flatten.length+5:=by
 unfold elemS;split
 . have:=q2b l.flatten.length;simp only [tlv,As,Ab];omega
 simp
def q0o(t n:Int)(b:List UInt8):(wrapS t n b).length<=b.length+5:=by
 unfold wrapS;split
 . have:=q0n (byteOf (t+n)) [b];simp only [Ak,Aq,Ac] at this;exact this
 simp
def j3C(v:Int):intSz v<=9:=by
 unfold intSz;cases h:firstN 9 (oneB v) with
 |none=>simp
 |some k=>have:=(q9a h).1;simp;omega
def q1g(v:Int):(intS v).length<=14:=by
 unfold intS;split
 . have d:=q0n 2 [numS v (intSz v)];have h:=j3C v;simp only [Ak,Aq,Ac,numS,AY,Ci] at d h⊢;omega
 simp
def j9d(v:Int)(hv:0<=v/\v<=4611686018427387904):PC Tryz.prog 55 [rI v] (.isl .u8 (intS v)):=by
 obtain ⟨n,rfl⟩:∃n:Nat,v=n:=⟨v.toNat,by omega⟩
 exact k0O n (by omega)
theorem z0d:∀ (l:List UInt8) (v:Nat),l.foldl (λv c=>v*256+c.toNat) v=v*256^ l.length+beN l
 | [],v=>by simp [beN]
 |x :: l,v=>by have d:=z0d l (v*256+x.toNat);have h:=z0d l (0*256+x.toNat);simp only [AV,As,beN] at*;rw [d,h,CD,Nat.add_mul,BU,Ag,Nat.mul_assoc,Ck 256,Ax]
theorem z4R(x:UInt8)(l:List UInt8):beN (x :: l)=x.toNat*256^ l.length+beN l:=by have:=z0d l (0*256+x.toNat);rw [BU,Ag] at this;unfold beN at*;rw [AV,BU,Ag,this]
def q0F(v:Int)(m:Nat):(numS v m).length=m:=by simp [numS]
def z0t(n:Nat):∀ (m:Nat),m<=9->beN (numS (n:Int) m)=n%256^ m
 |0,_=>by simp [numS,beN,Nat.mod_one]
 |m+1,h=>by rw [q2i,z4R,q0F,z0t n m (by omega),q1t n m (by omega),q0P,Nat.mod_pow_succ];unfold qN;rw [Ck,A4]

def sgn1(x:UInt8):Int:=IntKind.i8.wrap (x.toNat:Int)
variable {x:UInt8}
def j3V(h:x.toNat<128):sgn1 x=(x.toNat:Int):=by unfold sgn1;simp [IntKind.wrap,IntKind.bits,IntKind.signed];omega
def sgn(c:List UInt8):Int:=(c.drop 1).foldl (λv x=>v*256+ (x.toNat:Int)) (sgn1 (c.getD 0 0))
theorem z1I:∀ (l:List UInt8) (v:Nat),l.foldl (λ(v:Int) (x:UInt8)=>v*256+ (x.toNat:Int)) (v:Int)=((l.foldl (λv c=>v*256+c.toNat) v:Nat):Int)
 | [],v=>rfl
 |x :: l,v=>by have:=z1I l (v*256+x.toNat);simp only [AV];rw [<-this];push_cast;rfl
def j8e{l:List UInt8}(h:x.toNat<128):sgn (x :: l)=(beN (x :: l):Int):=by unfold sgn;rw [Bh,Ap,AD,j3V h,z1I];unfold beN;rw [AV,BU,Ag]
def decInt(c:List UInt8):Option Int:=if 1<=c.length/\c.length<=8/\intS (sgn c)=elemS 2 [c] then some (sgn c) else none
def decTime(c:List UInt8):Option Nat:=if c.length=6/\beN c<=1099511627776 then some (beN c) else none
def decStr(c:List UInt8):Option ByteArray:=some ⟨c.toArray⟩
def decOct(c:List UInt8):Option (List UInt8):=some c
def j2n(n:Nat)(h:n<=4611686018427387904):∃c,intS n=tlv 2 c/\c.length<=8/\1<=c.length/\decInt c=some (n:Int)/\beN c=n/\(c.length=8->36028797018963968<=n):=by
 have F:oneB (n:Int) 7=true:=by
  have:qN n 7<=127:=by unfold qN;exact Nat.div_le_of_le_mul (by omega)
  unfold oneB;rw [q2Y,decide_eq_true (show ((qN n 7:Nat):Int)<=127 by omega),decide_eq_true (show (-128:Int)<=(qN n 7:Int) by omega)];rfl
 obtain ⟨k,D⟩:∃k,firstN 9 (oneB (n:Int))=some k:=by
  cases w:firstN 9 (oneB (n:Int)) with
  |some k=>exact ⟨k,rfl⟩
  |none=>unfold firstN at w;rw [List.find?_range_eq_none] at w;have:=w 7 (by omega);rw [F] at this;cases this
 obtain ⟨_,o,i⟩:=q9a D;have hk7:k<=7:=by
  rcases AL 7 k with y|y
  . have:=i 7 y;rw [F] at this;cases this
  exact y
 have u:intSz (n:Int)=k+1:=by unfold intSz;rw [D];simp;omega
 have d:intS (n:Int)=tlv 2 (numS n (k+1)):=by unfold intS;rw [if_pos (by omega),u,q0A (by rw [q0F];omega)]
 have hq:qN n k<=127:=by simp only [oneB,q2Y,Ai,decide_eq_true_eq] at o;omega
 have j:n<256^ (k+1):=by
  have h1:n< (qN n k+1)*256^ k:=by unfold qN;have:=Nat.lt_mul_div_succ n (show 0<256^ k from Nat.pow_pos (by decide));rw [Ck] at this;exact this
  have h2:(qN n k+1)*256^ k<=256*256^ k:=A1 _ (by omega);rw [CD,Ck];omega
 have B:beN (numS (n:Int) (k+1))=n:=by rw [z0t n _ (by omega),AI j]
 have I:sgn (numS (n:Int) (k+1))=(n:Int):=by rw [q2i,j8e (by rw [q1t n k (by omega),q0P];omega),<-q2i,B]
 refine ⟨numS n (k+1),d,by rw [q0F];omega,by rw [q0F];omega,?_,B,λG=> ?_⟩
 . unfold decInt;rw [I,d,q0A (by rw [q0F];omega),if_pos ⟨by rw [q0F];omega,by rw [q0F];omega,rfl⟩]
 rw [q0F] at G;have A:=i 6 (by omega);simp only [oneB,q2Y,Cm,decide_eq_false_iff_not] at A;have:128<=qN n 6:=by omega
 unfold qN at this;have h9:=(Nat.le_div_iff_mul_le (show 0<256^ 6 by decide)).1 this;omega
variable {v:Int}
def q5C(h:0<=v/\v<=4611686018427387904):∃c,intS v=tlv 2 c/\c.length<=8/\1<=c.length/\decInt c=some v/\(beN c:Int)=v/\(c.length=8->36028797018963968<=v):=by
 obtain ⟨n,rfl⟩:∃n:Nat,v=n:=⟨v.toNat,by omega⟩
 obtain ⟨c,o,i,w,j,u,d⟩:=j2n n (by omega);exact ⟨c,o,i,w,j,by rw [u],λh=>by have:=d h;omega⟩
def intP:PR Int:=rdP 2 decInt
def octP:PR (List UInt8):=rdP 4 decOct
def timeP:PR Nat:=rdP 24 decTime
def strP:PR ByteArray:=rdP 27 decStr
def q6o(h:0<=v/\v<=4611686018427387904)(r:List UInt8):intP (intS v++r)= .ok (v,(intS v).length):=by obtain ⟨c,d,h2,_,i,_⟩:=q5C h;rw [d];exact q8y (by omega) i r
def q4n{t:Int}(h:0<=t/\t<=1099511627776):timeS t=tlv 24 (numS t 6):=by unfold timeS;rw [if_pos h,q0A (by rw [q0F];omega)]
variable {n:Nat}
def j1Z(h:n<=1099511627776)(r:List UInt8):timeP (timeS n++r)= .ok (n,(timeS n).length):=by rw [q4n (by omega)];refine q8y (by rw [q0F];omega) ?_ r;unfold decTime;rw [z0t n 6 (by omega),AI (by omega),if_pos ⟨q0F _ _,h⟩]
variable {b:List UInt8}
theorem z4x(h:b.length<=16777215)(r:List UInt8):octP (elemS 4 [b]++r)= .ok (b,(elemS 4 [b]).length):=by rw [q0A h];exact q8y h rfl r
variable {s:ByteArray}
def z8S(h:s.size<=16777215)(r:List UInt8):strP (elemS 27 [s.data.toList]++r)= .ok (s,(elemS 27 [s.data.toList]).length):=by
 have hl:s.data.toList.length=s.size:=by simp
 rw [q0A (by omega)];exact q8y (by omega) (by unfold decStr;simp) r
variable {α:Type}{p:PR α}{v:α}
def full{e:List UInt8}(h:∀r,p (e++r)= .ok (v,e.length)):p e= .ok (v,e.length):=by have:=h [];rwa [Ac] at this

variable {tag:UInt8}{r:List UInt8}{k:Nat}
theorem q6W{dec:List UInt8->Option α}(h:rdP tag dec r= .ok (v,k)):takeE tag r=0/\dec (takeC r)=some v/\k=takeN r:=by
 unfold rdP at h;split at h
 . split at h
   . cases h;exact ⟨by assumption,by assumption,rfl⟩
   cases h
 cases h
variable {e:Nat}
theorem z2S{dec:List UInt8->Option α}(h:rdP tag dec r= .error e):(takeE tag r=0/\dec (takeC r)=none/\e=6)\/(takeE tag r≠0/\e=takeE tag r):=by
 unfold rdP at h;split at h
 . split at h
   . cases h
   cases h;exact .inl ⟨by assumption,by assumption,rfl⟩
 cases h;exact .inr ⟨by assumption,rfl⟩
theorem j4S{dec:List UInt8->Option α}(h:rdP tag dec r= .ok (v,k)):k<=r.length:=by obtain ⟨d,_,rfl⟩:=q6W h;exact q2C d
def z8V(v:Int)(c:Nat)(hv: -36028797018963968<=v/\v<36028797018963968)(w:c<256):IntKind.i64.wrap ((BitVec.ofInt 64 (v*256) |||BitVec.ofInt 64 ((c:Nat):Int)).toNat:Int)=v*256+c:=by
 obtain ⟨m,d⟩:∃m:Nat,(BitVec.ofInt 64 (v*256)).toNat=m*256/\((m:Int)*256=v*256\/(m:Int)*256=v*256+18446744073709551616):=by
  refine ⟨((v*256)%18446744073709551616).toNat / 256,?_,?_⟩
  . rw [BitVec.toNat_ofInt];have:(((2^ 64:Nat)):Int)=18446744073709551616:=by decide
    rw [this];omega
  omega
 have o:(BitVec.ofInt 64 ((c:Nat):Int)).toNat=c:=by rw [AP,AX];exact AI (by omega)
 have u:m*256|||c=m*256+c:=by have:=Cu (b:=c) (i:=8) w m;rw [CP] at this;exact this.symm
 rw [Cb,d.1,o,u];have j:∀x:Int,IntKind.i64.wrap x=if x%18446744073709551616<9223372036854775808 then x%18446744073709551616 else x%18446744073709551616-18446744073709551616:=λx=>by simp [IntKind.wrap,IntKind.bits,IntKind.signed];split<;>omega
 rw [j]
 push_cast
 rcases d.2 with h|h<;>split<;>omega
def sgnK(c:List UInt8)(i:Nat):Int:=((c.drop 1).take i).foldl (λv x=>v*256+ (x.toNat:Int)) (sgn1 (c.getD 0 0))
def z8Y(x:UInt8): -128<=sgn1 x/\sgn1 x<128:=by have:=x.toNat_lt;unfold sgn1;simp [IntKind.wrap,IntKind.bits,IntKind.signed];omega
variable {c:List UInt8}
theorem z2b{i:Nat}(h:i< (c.drop 1).length):sgnK c (i+1)=sgnK c i*256+ (((c.drop 1).getD i 0).toNat:Int):=by unfold sgnK;rw [q1e (d:=0) h,List.foldl_append];rfl
def z7O(c:List UInt8):∀i,i<=(c.drop 1).length-> -(128*256^ i:Nat)<=sgnK c i/\sgnK c i< (128*256^ i:Nat)
 |0,_=>by have:=z8Y (c.getD 0 0);simpa [sgnK] using this
 |i+1,h=>by have ih:=z7O c i (by omega);have hx:=((c.drop 1).getD i 0).toNat_lt;rw [z2b (by omega),CD];omega
def j6H(a b:List UInt8)(ha:a.length<=140737488355328)(hb:b.length<=140737488355328):PC Tryz.prog 101 [.isl .u8 a,.isl .u8 b] (rB (decide (a=b))):=by refine q0s rfl rfl ?_;refine rQ fi101 ?_;exact decide_eq_decide.2 ⟨λh=>by simpa [strOf] using h,λh=>by rw [h]⟩
def iVal(c:List UInt8):Int:=if c.length<1\/8<c.length then 0 else sgn c
theorem z6X{v:Int}(h:decInt c=some v):v=iVal c:=by
 unfold decInt at h;split at h
 . rename_i hc;cases h;unfold iVal;rw [if_neg (by omega)]
 cases h
def j2P(c:List UInt8):sgnK c (c.drop 1).length=sgn c:=by unfold sgnK sgn;rw [Aw]
theorem j5q(c:List UInt8)(hc:c.length<=1099511627776):PC Tryz.prog 131 [.isl .u8 c] (.tup [rI (iVal c),rB (decInt c).isSome]):=by
 refine q0g rfl rfl ?_;refine rQ fi131 ?_;have I:(c.length<1\/8<c.length)->iVal c=0/\(decInt c).isSome=false:=λh=>by unfold iVal decInt;rw [if_pos h,if_neg (by omega)];exact ⟨rfl,rfl⟩
 refine ⟨λN=>⟨λO=> ?_,λO=>⟨by omega,⟨by omega,Ad _⟩,?_⟩⟩,λN=> ?_⟩
 . obtain ⟨y,w⟩:=I (by omega);rw [y,w];exact ⟨rfl,rfl⟩
 rotate_left
 . obtain ⟨y,w⟩:=I (by omega);rw [y,w];exact ⟨rfl,rfl⟩
 have F:IntKind.i64.wrap (IntKind.i8.wrap ((c.getD 0 Ty.u8.dflt).toNat:Int))=sgnK c 0:=by have:=z8Y (c.getD 0 0);show IntKind.i64.wrap (sgn1 (c.getD 0 0))=_;rw [wrapi (by omega)];rfl
 rw [F];have B:List.take c.length c=c:=Aw;rw [B];have hl:(c.drop 1).length=c.length-1:=Ah;generalize A:c.drop 1=d at*;refine q1p (λi=>[(4,rI (sgnK c i)),(23,.raw (.int .i64 ((i:Nat):Int)))]) (d.length) (λj=>(λ_=>true) j=true) (by first|decide|simp) (λi=>rfl) ?_ λi hi u=> ?_
 . (with_reducible refine sxE ?_<;>try exact True.intro)
   all_goals (try rfl)
 have G:=wsx i (by omega);refine gQ ?_;have D:i< (d.length)->(λ_=>true) i=false->allN (d.length) (λ_=>true)=false:=λo U=>q0u o U;have fin:¬i< (d.length)->allN (d.length) (λ_=>true)=true:=λh=>q0v λj hj=>u j (by omega);try dsimp only at D fin u
 refine ⟨λo=>⟨⟨by omega,o⟩,?_⟩,λhge=> ?_⟩
 . have hb:=z7O c i (by rw [A];omega);have hp:256^ i<=256^ 6:=A2 (by decide) (by omega);have R:(d.getD i Ty.u8.dflt).toNat<256:=BE _;have K:sgnK c i*2^ min 8 64=sgnK c i*256:=rfl;have y:IntKind.i64.wrap (sgnK c i*256)=sgnK c i*256:=wrapi (by omega);have w:IntKind.i64.wrap ((d.getD i Ty.u8.dflt).toNat:Int)=((d.getD i Ty.u8.dflt).toNat:Int):=wrapi (by omega);have S:=z8V (sgnK c i) (d.getD i Ty.u8.dflt).toNat (by omega) R;have J:=z2b (c:=c) (i:=i) (by rw [A];exact o);rw [A] at J;rw [K,y,w];refine ⟨o,trivial,⟨[],rfl⟩,?_⟩;with_reducible refine sx1 G ?_
   rw [J];exact congrArg (Value.int .i64) S
 obtain rfl:i=d.length:=by omega
 have hall':=j2P c;rw [A] at hall';rw [hall'];refine cQ (q3c (sgn c)) ?_;refine q0x 0 ?_;with_reducible refine sxE ?_
 refine q0a (q2R 2 2 rfl [c] (by simp)) ?_;have g1:=q1g (sgn c);have L:=q0n 2 [c];simp only [Ak,Aq,Ac] at L;refine gQ ?_;refine cQ (j6H _ _ (by omega) (by omega)) ?_;have y:iVal c=sgn c:=by unfold iVal;rw [if_neg (by omega)]
 have w:(decInt c).isSome=decide (intS (sgn c)=elemS 2 [c]):=by
  unfold decInt;by_cases h:intS (sgn c)=elemS 2 [c]
  . rw [if_pos ⟨by omega,by omega,h⟩,decide_eq_true h];rfl
  rw [if_neg (λq=>h q.2.2),decide_eq_false h];rfl
 rw [y,w];exact ⟨rfl,rfl⟩
def tVal(c:List UInt8):Nat:=if c.length≠6 then 0 else beN c
theorem j0a(c:List UInt8):PC Tryz.prog 144 [.isl .u8 c] (.tup [rI (tVal c),rB (decTime c).isSome]):=by
 refine q0g rfl rfl ?_;refine rQ fi144 ?_;refine ⟨λj=> ?_,λj=>q0a (z6R c (by omega)) ?_⟩
 . have d:tVal c=0:=by unfold tVal;rw [if_pos (by omega)]
   have i:(decTime c).isSome=false:=by unfold decTime;rw [if_neg (by omega)];rfl
   rw [d,i];exact ⟨rfl,rfl⟩
 have d:tVal c=beN c:=by unfold tVal;rw [if_neg (by omega)]
 have i:(decTime c).isSome=decide (((beN c:Nat):Int)<=1099511627776):=by
  unfold decTime;by_cases h:beN c<=1099511627776
  . rw [if_pos ⟨by omega,h⟩,decide_eq_true (by omega)];rfl
  rw [if_neg (by omega),decide_eq_false (by omega)];rfl
 rw [d,i];refine gQ ?_;trivial
theorem j4U(c:List UInt8)(hc:c.length<=1099511627776):PC Tryz.prog 187 [.isl .u8 c] (.tup [rS ⟨c.toArray⟩,rB true]):=by refine q0g rfl rfl ?_;refine rQ fi187 ?_;rfl
def j5m(c:List UInt8)(hc:c.length<=1099511627776):PC Tryz.prog 143 [.isl .u8 c] (.tup [.isl .u8 c,rB true]):=by refine q0g rfl rfl ?_;refine rQ fi143 ?_;refine cQ (q2J c (by omega)) ?_;trivial
theorem z3J{v:Nat}(h:decTime c=some v):v=tVal c:=by
 unfold decTime at h;split at h
 . rename_i hc;cases h;unfold tVal;rw [if_neg (by omega)]
 cases h
def q1K(hb:b.length<=1099511627776):(takeC (b.drop n)).length<=1099511627776:=by have:=q8B (b.drop n);rw [Ah] at this;omega
def z9z(b:List UInt8)(n:Nat)(u:n<=b.length)(o:b.length<=1099511627776){v:Int}(h:intP (b.drop n)= .ok (v,k)):PE Tryz.prog 70 [.ptr 0 0] [rdr b n] (.ret (.tup [(rI) v,rI 0])) [rdr b (n+k)]:=by obtain ⟨j,d,rfl⟩:=q6W h;have i:=q7n 131 2 b n u o _ _ (j5q (takeC (b.drop n)) (q1K o)) ⟨_,.inl rfl⟩;rw [if_pos j,if_pos (by rw [d];rfl),if_pos ⟨j,by rw [d];rfl⟩,<-z6X d] at i;refine q0b (Ad _) ?_;refine rQ fi70 ?_;refine eQ [0] (i) ?_;trivial
def z7I(b:List UInt8)(n:Nat)(w:n<=b.length)(u:b.length<=1099511627776)(h:intP (b.drop n)= .error e):PE Tryz.prog 70 [.ptr 0 0] [rdr b n] (.ret (.tup [rI 0,rI e])) [rdr b n]:=by
 have d:=q7n 131 2 b n w u _ _ (j5q (takeC (b.drop n)) (q1K u)) ⟨_,.inl rfl⟩;have j:PE Tryz.prog 130 [.ptr 0 0,.raw (.int .u8 (2:UInt8).toNat),.fn 131 [] []] [rdr b n] (.ret (.tup [rI 0,rI e])) [rdr b n]:=by
  rcases z2S h with ⟨i,o,rfl⟩ | ⟨i,rfl⟩
  . rw [if_pos i,if_neg (by rw [o];simp),if_neg (λq=>by rw [o] at q;simp at q)] at d;exact d
  rw [if_neg i,if_neg (λq=>i q.1)] at d;exact d
 refine q0b (Ad _) ?_;refine rQ fi70 ?_;refine eQ [0] (j) ?_;trivial
def j1K(b:List UInt8)(n:Nat)(u:n<=b.length)(o:b.length<=1099511627776){v:Nat}(h:timeP (b.drop n)= .ok (v,k)):PE Tryz.prog 75 [.ptr 0 0] [rdr b n] (.ret (.tup [(λv=>rI (v:Nat)) v,rI 0])) [rdr b (n+k)]:=by obtain ⟨j,d,rfl⟩:=q6W h;have i:=q7n 144 24 b n u o _ _ (j0a (takeC (b.drop n))) ⟨_,.inl rfl⟩;rw [if_pos j,if_pos (by rw [d];rfl),if_pos ⟨j,by rw [d];rfl⟩,<-z3J d] at i;refine q0b (Ad _) ?_;refine rQ fi75 ?_;refine eQ [0] (i) ?_;trivial
def j3I(b:List UInt8)(n:Nat)(w:n<=b.length)(u:b.length<=1099511627776)(h:timeP (b.drop n)= .error e):PE Tryz.prog 75 [.ptr 0 0] [rdr b n] (.ret (.tup [rI 0,rI e])) [rdr b n]:=by
 have d:=q7n 144 24 b n w u _ _ (j0a (takeC (b.drop n))) ⟨_,.inl rfl⟩;have j:PE Tryz.prog 130 [.ptr 0 0,.raw (.int .u8 (24:UInt8).toNat),.fn 144 [] []] [rdr b n] (.ret (.tup [rI 0,rI e])) [rdr b n]:=by
  rcases z2S h with ⟨i,o,rfl⟩ | ⟨i,rfl⟩
  . rw [if_pos i,if_neg (by rw [o];simp),if_neg (λq=>by rw [o] at q;simp at q)] at d;exact d
  rw [if_neg i,if_neg (λq=>i q.1)] at d;exact d
 refine q0b (Ad _) ?_;refine rQ fi75 ?_;refine eQ [0] (j) ?_;trivial
def z7X(b:List UInt8)(n:Nat)(u:n<=b.length)(j:b.length<=1099511627776){v:ByteArray}(h:strP (b.drop n)= .ok (v,k)):PE Tryz.prog 138 [.ptr 0 0] [rdr b n] (.ret (.tup [rS v,rI 0])) [rdr b (n+k)]:=by obtain ⟨i,o,rfl⟩:=q6W h;have d:=z5k 187 27 b n u j _ _ (j4U (takeC (b.drop n)) (q1K j)) ⟨_,.inl rfl⟩;rw [if_pos i,if_pos rfl,if_pos ⟨i,rfl⟩] at d;cases o;refine q0b (Ad _) ?_;refine rQ fi138 ?_;refine eQ [0] (d) ?_;trivial
def z9f(b:List UInt8)(n:Nat)(w:n<=b.length)(o:b.length<=1099511627776)(h:strP (b.drop n)= .error e):PE Tryz.prog 138 [.ptr 0 0] [rdr b n] (.ret (.tup [.raw (.string ⟨#[]⟩),rI e])) [rdr b n]:=by
 have j:=z5k 187 27 b n w o _ _ (j4U (takeC (b.drop n)) (q1K o)) ⟨_,.inl rfl⟩;have d:PE Tryz.prog 186 [.ptr 0 0,.raw (.int .u8 (27:UInt8).toNat),.fn 187 [] []] [rdr b n] (.ret (.tup [.raw (.string ⟨#[]⟩),rI e])) [rdr b n]:=by
  rcases z2S h with ⟨i,u,rfl⟩ | ⟨i,rfl⟩
  . cases u
  rw [if_neg i,if_neg (λq=>i q.1)] at j;exact j
 refine q0b (Ad _) ?_;refine rQ fi138 ?_;refine eQ [0] (d) ?_;trivial
def z9n(b:List UInt8)(n:Nat)(u:n<=b.length)(j:b.length<=1099511627776){v:List UInt8}(h:octP (b.drop n)= .ok (v,k)):PE Tryz.prog 74 [.ptr 0 0] [rdr b n] (.ret (.tup [.isl .u8 v,rI 0])) [rdr b (n+k)]:=by obtain ⟨i,o,rfl⟩:=q6W h;have d:=q9F 143 4 b n u j _ _ (j5m (takeC (b.drop n)) (q1K j)) ⟨.bool true,.inr ⟨_,rfl⟩⟩;rw [if_pos i,if_pos rfl,if_pos ⟨i,rfl⟩] at d;cases o;refine q0b (Ad _) ?_;refine rQ fi74 ?_;refine eQ [0] (d) ?_;trivial
def z8H(b:List UInt8)(n:Nat)(w:n<=b.length)(o:b.length<=1099511627776)(h:octP (b.drop n)= .error e):PE Tryz.prog 74 [.ptr 0 0] [rdr b n] (.ret (.tup [.isl .u8 [],rI e])) [rdr b n]:=by
 have j:=q9F 143 4 b n w o _ _ (j5m (takeC (b.drop n)) (q1K o)) ⟨.bool true,.inr ⟨_,rfl⟩⟩;have d:PE Tryz.prog 142 [.ptr 0 0,.raw (.int .u8 (4:UInt8).toNat),.fn 143 [] []] [rdr b n] (.ret (.tup [.isl .u8 [],rI e])) [rdr b n]:=by
  rcases z2S h with ⟨i,u,rfl⟩ | ⟨i,rfl⟩
  . cases u
  rw [if_neg i,if_neg (λq=>i q.1)] at j;exact j
 refine q0b (Ad _) ?_;refine rQ fi74 ?_;refine eQ [0] (d) ?_;trivial
theorem z0C(tag:UInt8)(b:List UInt8)(n:Nat)(i:n<=b.length)(j:b.length<=1099511627776)(h:takeE tag (b.drop n)=0):
 PE Tryz.prog 126 [.ptr 0 0,.raw (.int .u8 tag.toNat),.fn 127 [] []] [rdr b n] (.ret (.tup [.ptr 1 0,rI 0])) [rdr b (n+takeN (b.drop n)),rdr (takeC (b.drop n)) 0]:=by
 have d:=z2s tag b n i j;rw [if_pos h,if_pos h,h] at d;generalize takeC (b.drop n)=c at*;generalize takeN (b.drop n)=k at*;refine q0b (by simp) ?_;refine rQ fi126 ?_;refine eQ [0] (d) ?_;refine eQ [] (z4B c) ?_;trivial
theorem z0U(tag:UInt8)(b:List UInt8)(n:Nat)(j:n<=b.length)(i:b.length<=1099511627776)(h:takeE tag (b.drop n)≠0):
 PE Tryz.prog 126 [.ptr 0 0,.raw (.int .u8 tag.toNat),.fn 127 [] []] [rdr b n] (.ret (.tup [.raw (.pointer none),rI (takeE tag (b.drop n))])) [rdr b n]:=by
 have d:=z2s tag b n j i;rw [if_neg h,if_neg h] at d;generalize takeE tag (b.drop n)=e at*;refine q0b (by simp) ?_;refine rQ fi126 ?_;refine eQ [0] (d) ?_;exact ⟨λ_=>trivial,λh0=>absurd (by omega) h⟩
def q6p(b:List UInt8)(n:Nat)(d:n<=b.length)(i:b.length<=1099511627776)(h:takeE 48 (b.drop n)=0):
 PE Tryz.prog 66 [.ptr 0 0] [rdr b n] (.ret (.tup [.ptr 1 0,rI 0])) [rdr b (n+takeN (b.drop n)),rdr (takeC (b.drop n)) 0]:=by
 have j:=z0C 48 b n d i h;refine q0b (by simp) ?_;refine rQ fi66 ?_;refine eQ [0] (j) ?_;trivial
def q6L(b:List UInt8)(n:Nat)(d:n<=b.length)(i:b.length<=1099511627776)(h:takeE 48 (b.drop n)≠0):
 PE Tryz.prog 66 [.ptr 0 0] [rdr b n] (.ret (.tup [.raw (.pointer none),rI (takeE 48 (b.drop n))])) [rdr b n]:=by
 have j:=z0U 48 b n d i h;refine q0b (by simp) ?_;refine rQ fi66 ?_;refine eQ [0] (j) ?_;trivial
variable {m:Nat}
def z7B(hm:m<=30):IntKind.u8.wrap (IntKind.i64.wrap (160+ (m:Int)))=((tagB m).toNat:Int):=by rw [wrapi (by omega)];exact (q0U _).symm
def q8C:nextB m r=true ↔ ¬((r.length:Int)=0)/\((r.getD 0 Ty.u8.dflt).toNat:Int)=((tagB m).toNat:Int):=by
 unfold nextB;simp only [Ai,decide_eq_true_eq,ne_eq];constructor
 . rintro ⟨h,d⟩;exact ⟨by omega,by rw [show r.getD 0 Ty.u8.dflt=tagB m from d]⟩
 rintro ⟨h,d⟩;exact ⟨by omega,AZ.1 (by exact_mod_cast d)⟩
def j1S(h:nextB m r=false)(d:¬((r.length:Int)=0)):¬((r.getD 0 Ty.u8.dflt).toNat:Int)=((tagB m).toNat:Int):=λi=>by rw [q8C.2 ⟨d,i⟩] at h;cases h
theorem q3p(m:Nat)(j:m<=30)(b:List UInt8)(n:Nat)(A:n<=b.length)(h:nextB m (b.drop n)=false):
 PE Tryz.prog 140 [.ptr 0 0,rI m] [rdr b n] (.ret (.tup [.raw (.pointer none),rB false,rI 0])) [rdr b n]:=by
 have o:=z2Z b n A;have i:=z7B j;have y:=j1S h;generalize b.drop n=r at*;refine q0b (by simp) ?_;refine rQ fi140 ?_;refine ⟨λ_=>⟨λd=>absurd d (by omega),λ_=> ?_⟩,λhneg=>by exfalso;omega⟩;refine q0j [0] (o) rfl (by decide) (by repeat first|exact trivial|exact rfl|refine And.intro ?_ ?_) rfl rfl ?_;simp only [afterO,Out.ren,SV.ren,mgA,sig,SObj.ren,SV.renL,List.set,List.map,Ac,i];refine gy1 i ?_;exact ⟨λw=>⟨by omega,λ_=>trivial,λu=>absurd u (y w)⟩,λ_=>trivial⟩
theorem q3l(m:Nat)(A:m<=30)(b:List UInt8)(n:Nat)(w:n<=b.length)(G:b.length<=1099511627776)(h:nextB m (b.drop n)=true)(F:takeE (tagB m) (b.drop n)=0):
 PE Tryz.prog 140 [.ptr 0 0,rI m] [rdr b n] (.ret (.tup [.ptr 1 0,rB true,rI 0])) [rdr b (n+takeN (b.drop n)),rdr (takeC (b.drop n)) 0]:=by
 have B:=z2Z b n w;have y:=z0C (tagB m) b n w G F;have o:=z7B A;obtain ⟨j,d⟩:=q8C.1 h;generalize takeC (b.drop n)=c at*;generalize takeN (b.drop n)=k at*;generalize b.drop n=r at*;refine q0b (by simp) ?_;refine rQ fi140 ?_;refine ⟨λ_=>⟨λi=>absurd i (by omega),λ_=> ?_⟩,λhneg=>by exfalso;omega⟩;refine q0j [0] (B) rfl (by decide) (by repeat first|exact trivial|exact rfl|refine And.intro ?_ ?_) rfl rfl ?_;simp only [afterO,Out.ren,SV.ren,mgA,sig,SObj.ren,SV.renL,List.set,List.map,Ac,o];refine gy1 o ?_;refine ⟨λu=>⟨by omega,λD=>absurd d D,λ_=> ?_⟩,λu=>absurd u j⟩;refine eQ [0] (y) ?_;trivial
theorem q3n(m:Nat)(B:m<=30)(b:List UInt8)(n:Nat)(y:n<=b.length)(G:b.length<=1099511627776)(h:nextB m (b.drop n)=true)(w:takeE (tagB m) (b.drop n)≠0):
 PE Tryz.prog 140 [.ptr 0 0,rI m] [rdr b n] (.ret (.tup [.raw (.pointer none),rB false,rI (takeE (tagB m) (b.drop n))])) [rdr b n]:=by
 have D:=z2Z b n y;have A:=z0U (tagB m) b n y G w;have o:=z7B B;obtain ⟨j,d⟩:=q8C.1 h;generalize takeE (tagB m) (b.drop n)=e at*;generalize b.drop n=r at*;refine q0b (by simp) ?_;refine rQ fi140 ?_;refine ⟨λ_=>⟨λi=>absurd i (by omega),λ_=> ?_⟩,λhneg=>by exfalso;omega⟩;refine q0j [0] (D) rfl (by decide) (by repeat first|exact trivial|exact rfl|refine And.intro ?_ ?_) rfl rfl ?_;simp only [afterO,Out.ren,SV.ren,mgA,sig,SObj.ren,SV.renL,List.set,List.map,Ac,o];refine gy1 o ?_;refine ⟨λu=>⟨by omega,λF=>absurd d F,λ_=> ?_⟩,λu=>absurd u j⟩;refine eQ [0] (A) ?_;exact λq=>w (by omega)
def q8s:(takeE tag r≠0/\inP tag p r= .error (takeE tag r))\/
 (takeE tag r=0/\∃e,p (takeC r)= .error e/\inP tag p r= .error e)\/
 (takeE tag r=0/\∃v m,p (takeC r)= .ok (v,m)/\m< (takeC r).length/\inP tag p r= .error 6)\/
 (takeE tag r=0/\∃v m,p (takeC r)= .ok (v,m)/\¬m< (takeC r).length/\inP tag p r= .ok (v,takeN r)):=by
 unfold inP allP;by_cases h:takeE tag r=0
 . right;rw [if_pos h];cases hp:p (takeC r) with
   |error e=>exact .inl ⟨h,e,rfl,rfl⟩
   |ok x=>
    obtain ⟨v,m⟩:=x;by_cases d:m< (takeC r).length
    . exact .inr (.inl ⟨h,v,m,rfl,d,by simp [d]⟩)
    exact .inr (.inr ⟨h,v,m,rfl,d,by simp [d]⟩)
 exact .inl ⟨h,by rw [if_neg h]⟩
def FitsP(p:PR α):Prop:=∀r v m,p r= .ok (v,m)->m<=r.length
def q5M:FitsP (inP tag p):=λr v m h=>by
 rcases q8s (tag:=tag) (p:=p) (r:=r) with ⟨_,e⟩ | ⟨_,_,_,e⟩ | ⟨_,_,_,_,_,e⟩ | ⟨d,_,_,_,_,e⟩ <;>rw [e] at h<;>cases h
 exact q2C d
def q4L{dec:List UInt8->Option α}:FitsP (rdP tag dec):=λ_ _ _ h=>j4S h
def q0X:FitsP (needP n p):=λr v m h=>by
 unfold needP at h;split at h
 . exact q5M r v m h
 cases h
theorem q7f{dec:List UInt8->Option α}(h:rdP tag dec r= .error e):e≠0:=by
 rcases z2S h with ⟨_,_,rfl⟩ | ⟨d,rfl⟩
 . decide
 exact d
def tailP(xs:List α)(k:Nat):Except Nat (List α×Nat)->Except Nat (List α×Nat)
 |.ok (l,m)=>.ok (xs++l,k+m)
 |.error e=>.error e
variable {most:Nat}{xs:List α}
def q9E(hk:k<c.length)(hm:0<most)(d:p (c.drop k)= .ok (v,m)):tailP xs n (listP p most (c.drop k))=tailP (xs++ [v]) (n+m) (listP p (most-1) (c.drop (k+m))):=by
 obtain ⟨most,rfl⟩:∃q,most=q+1:=⟨most-1,by omega⟩
 simp only [listP];rw [if_neg (by rw [Ah];omega),d];simp only [Cf,A9];cases listP p most (c.drop (k+m)) with
 |error e=>rfl
 |ok y=>obtain ⟨l,q⟩:=y;simp [tailP];omega
theorem z7g(hk:k<c.length):tailP xs n (listP p 0 (c.drop k))= .error 6:=by simp only [listP];rw [if_neg (by rw [Ah];omega)];rfl
theorem q3X(hk:k<c.length)(hm:0<most)(d:p (c.drop k)= .error e):tailP xs n (listP p most (c.drop k))= .error e:=by
 obtain ⟨most,rfl⟩:∃q,most=q+1:=⟨most-1,by omega⟩
 simp only [listP];rw [if_neg (by rw [Ah];omega),d];rfl
def z2X(d:c.length<=k):tailP xs n (listP p most (c.drop k))= .ok (xs,n):=by have:c.drop k= []:=A0 d;rw [this];cases most<;>simp [listP,tailP]
def z5Q(x:Except Nat (List α×Nat)):tailP [] 0 x=x:=by
 cases x with
 |error e=>rfl
 |ok y=>obtain ⟨l,m⟩:=y;simp [tailP]
def shiftP(k:Nat):Except Nat (α×Nat)->Except Nat (α×Nat)
 |.ok (v,m)=>.ok (v,k+m)
 |.error e=>.error e
variable {β:Type}{f:α->PR β}
def q1f(h:p r= .error e):bindP p f r= .error e:=by unfold bindP;rw [h]
theorem q1R(h:p (b.drop n)= .ok (v,k)):bindP p f (b.drop n)=shiftP k (f v (b.drop (n+k))):=by
 unfold bindP;rw [h];simp only [A9];cases f v (b.drop (n+k)) with
 |error e=>rfl
 |ok y=>rfl
def q2U(d:FitsP p)(hn:n<=b.length)(h:p (b.drop n)= .ok (v,k)):n+k<=b.length:=by have:=d _ _ _ h;rw [Ah] at this;omega
def OkP(p:PR α)(Q:α->Prop):Prop:=∀r v m,r.length<=1099511627776->p r= .ok (v,m)->Q v
variable {Q:α->Prop}
def z9t{dec:List UInt8->Option α}(h:∀c v,c.length<=1099511627776->dec c=some v->Q v):OkP (rdP tag dec) Q:=λr v m j i=>by obtain ⟨_,d,_⟩:=q6W i;exact h _ v (Ao (q8B r) j) d
def z3d(h:OkP p Q):OkP (inP tag p) Q:=λr v m i d=>by
 rcases q8s (tag:=tag) (p:=p) (r:=r) with ⟨_,e⟩ | ⟨_,_,_,e⟩ | ⟨_,_,_,_,_,e⟩ | ⟨_,u,k,g,_,e⟩ <;>rw [e] at d<;>cases d
 exact h _ _ _ (Ao (q8B r) i) g
def q5B(h:OkP p Q):OkP (needP n p) Q:=λr v m i d=>by
 unfold needP at d;split at d
 . exact z3d h r v m i d
 cases d
def q5T{Q1:α->Prop}{Q:β->Prop}(j:OkP p Q1)(o:∀v,Q1 v->OkP (f v) Q):OkP (bindP p f) Q:=λr v m A d=>by
 unfold bindP at d;cases i:p r with
 |error e=>rw [i] at d;cases d
 |ok y=>
  obtain ⟨u,k⟩:=y;rw [i] at d;simp only at d;cases h:f u (r.drop k) with
  |error e=>rw [h] at d;cases d
  |ok z=>obtain ⟨w,l⟩:=z;rw [h] at d;cases d;exact o u (j r u k A i) _ _ _ (by rw [Ah];omega) h
def z9J(h:Q v):OkP (retP v) Q:=λr u m _ d=>by cases d;exact h
def z4X{α:Type}{p:PR α}{Q:α->Prop}(j:OkP p Q):∀n,OkP (listP p n) λl=>l.length<=n/\∀x∈l,Q x
 |0,r,v,m,_,hx=>by
  simp only [listP] at hx;split at hx
  . cases hx;exact ⟨Ad _,by simp⟩
  cases hx
 |n+1,r,v,m,hr,hx=>by
  simp only [listP] at hx;split at hx
  . cases hx;exact ⟨by simp,by simp⟩
  cases i:p r with
  |error e=>rw [i] at hx;cases hx
  |ok y=>
   obtain ⟨u,k⟩:=y;rw [i] at hx;simp only at hx;cases h:listP p n (r.drop k) with
   |error e=>rw [h] at hx;cases hx
   |ok z=>
    obtain ⟨w,l⟩:=z;rw [h] at hx;cases hx;have o:=z4X j n _ _ _ (by rw [Ah];omega) h
    exact ⟨by simp;exact o.1,λx d=>by
     rcases Bb.1 d with rfl|A
     . exact j r _ k hr i
     exact o.2 x A⟩
def z1x:OkP p λ_=>True:=λ_ _ _ _ _=>trivial
def z8m:OkP strP λs=>s.size<=1099511627776:=z9t λc v h d=>by unfold decStr at d;cases d;show c.toArray.size<=_;simpa using h
def k0Y(b:List UInt8)(d:b.length<=140737488355328):PE Tryz.prog 63 [.isl .u8 b] [] (.ret (.ptr 0 0)) [rdr b 0]:=by refine q0b (by simp) ?_;refine rQ fi63 ?_;refine cQ (q2J b d) ?_;refine eQ [] (j1o b) ?_;trivial
@[go_sem] abbrev errV(e:Int):SV:=.iface 33 (rI e)
def EffX(P:Program)(f:FuncId)(args:List SV)(b:List UInt8)(n:Nat)(res:α->SV):Except Nat (α×Nat)->Prop
 |.ok (v,k)=>PE P f args [rdr b n] (.ret (res v)) [rdr b (n+k)]
 |.error e=>PE P f args [rdr b n] (.pan (errV e)) [.dead]
variable {P:Program}{f:FuncId}{args:List SV}{res:α->SV}{x:Except Nat (α×Nat)}
def q1d(h:EffX P f args b n res x)(d:x= .ok (v,k)):PE P f args [rdr b n] (.ret (res v)) [rdr b (n+k)]:=by rw [d] at h;exact h
def q2A(h:EffX P f args b n res x)(d:x= .error e):PE P f args [rdr b n] (.pan (errV e)) [.dead]:=by rw [d] at h;exact h
theorem z1M(v:Value):PC Tryz.prog 190 [.raw v,rI 0] (.raw v):=by refine q0s rfl rfl ?_;refine rQ fi190 ?_;trivial
def z2l(v:Value)(e:Nat)(d:e≠0):PE Tryz.prog 190 [.raw v,rI e] [] (.pan (errV e)) []:=by refine q0b (by simp) ?_;refine rQ fi190 ?_;exact ⟨λ_=>trivial,λh=>absurd (by omega) d⟩
theorem q7O(v:List UInt8):PC Tryz.prog 191 [.isl .u8 v,rI 0] (.isl .u8 v):=by refine q0s rfl rfl ?_;refine rQ fi191 ?_;trivial
def q9s(v:List UInt8)(e:Nat)(d:e≠0):PE Tryz.prog 191 [.isl .u8 v,rI e] [] (.pan (errV e)) []:=by refine q0b (by simp) ?_;refine rQ fi191 ?_;exact ⟨λ_=>trivial,λh=>absurd (by omega) d⟩
theorem q7S(v:Value):PC Tryz.prog 137 [.raw v,rI 0] (.raw v):=by refine q0s rfl rfl ?_;refine rQ fi137 ?_;trivial
def q6S(v:Value)(e:Nat)(d:e≠0):PE Tryz.prog 137 [.raw v,rI e] [] (.pan (errV e)) []:=by refine q0b (by simp) ?_;refine rQ fi137 ?_;exact ⟨λ_=>trivial,λh=>absurd (by omega) d⟩
def q8h(b:List UInt8)(n:Nat):PE Tryz.prog 153 [.ptr 0 0,rI 0] [rdr b n] (.ret (.ptr 0 0)) [rdr b n]:=by refine q0b (by simp) ?_;refine rQ fi153 ?_;trivial
def q4k(e:Nat)(d:e≠0):PE Tryz.prog 153 [.raw (.pointer none),rI e] [] (.pan (errV e)) []:=by refine q0b (by simp) ?_;refine rQ fi153 ?_;exact ⟨λ_=>trivial,λh=>absurd (by omega) d⟩
def q8f(b:List UInt8)(n:Nat):PE Tryz.prog 135 [.ptr 0 0,rI 0] [rdr b n] (.ret (.ptr 0 0)) [rdr b n]:=by refine q0b (by simp) ?_;refine rQ fi135 ?_;trivial
def q6Y(e:Nat)(d:e≠0):PE Tryz.prog 135 [.raw (.pointer none),rI e] [] (.pan (errV e)) []:=by refine q0b (by simp) ?_;refine rQ fi135 ?_;exact ⟨λ_=>trivial,λh=>absurd (by omega) d⟩
def z6p(b:List UInt8)(n:Nat)(hn:n=b.length):PE Tryz.prog 156 [.ptr 0 0] [rdr b n] (.ret (.tup [])) [rdr b n]:=by have d:=q3d b n (by omega);refine q0b (by simp) ?_;refine rQ fi156 ?_;refine eQ [0] (d) ?_;exact ⟨λq=>absurd q (by omega),λ_=>trivial⟩
def z5L(b:List UInt8)(n:Nat)(hn:n<b.length):PE Tryz.prog 156 [.ptr 0 0] [rdr b n] (.pan (errV 6)) [.dead]:=by have d:=q3d b n (by omega);refine q0b (by simp) ?_;refine rQ fi156 ?_;refine eQ [0] (d) ?_;exact ⟨λ_=>trivial,λq=>absurd (by omega) q⟩
theorem q2r(h:nextB n r=false):needP n p r= .error (if r.length=0 then 4 else 6):=by unfold needP;rw [h];rfl
theorem q2v(h:nextB n r=true):needP n p r=inP (tagB n) p r:=by unfold needP;rw [h];rfl
def closeP(l N:Nat):Except Nat (α×Nat)->Except Nat (α×Nat)
 |.ok (v,m)=>if m<l then .error 6 else .ok (v,N)
 |.error e=>.error e
def q3o(h:takeE tag r=0):inP tag p r=closeP (takeC r).length (takeN r) (p (takeC r)):=by
 unfold inP allP;rw [if_pos h];cases p (takeC r) with
 |error e=>rfl
 |ok x=>obtain ⟨v,m⟩:=x;simp only [closeP];by_cases d:m< (takeC r).length<;>simp [d]
def q3W(h:takeE tag r≠0):inP tag p r= .error (takeE tag r):=by unfold inP;rw [if_neg h]
theorem z8X(i:Nat)(B:i<=30)(b:List UInt8)(n:Nat)(y:n<=b.length)(A:b.length<=1099511627776):EffX Tryz.prog 154 [.ptr 0 0,rI i,.fn 70 [] []] b n (λv=>rI v) (needP i intP (b.drop n)):=by
 cases h:nextB i (b.drop n) with
 |false=>
  rw [q2r h,Ah];have j:=q3p i B b n y h;have F:=q3d b n y;generalize b.length-n=q at*;refine q0b (by simp) ?_;refine rQ fi154 ?_;refine eQ [0] (j) ?_;refine eQ [0] (F) ?_;by_cases D:q=0
  . simp [D]
  simp [D]
 |true=>
  rw [q2v h];by_cases u:takeE (tagB i) (b.drop n)=0
  . rw [q3o u];have j:=q3l i B b n y A h u;have G:=q1K (n:=n) A;generalize takeC (b.drop n)=c at*;generalize takeN (b.drop n)=N at*;cases w:intP c with
    |error e=>have o:=z7I c 0 (Aj _) G (by rw [Ap];exact w);refine q0b (by simp) ?_;refine rQ fi154 ?_;refine eQ [0] (j) ?_;refine eQ [1] (o) ?_;refine effP [] (z2l (.int .i64 0) e (q7f w)) ?_;trivial
    |ok x=>
     obtain ⟨v,m⟩:=x;have I:=q4L _ _ _ w;have o:=z9z c 0 (Aj _) G (by rw [Ap];exact w);have F:=q3d c m I;rw [Ag] at o;simp only [closeP];by_cases d:m<c.length
     . rw [if_pos d];refine q0b (by simp) ?_;refine rQ fi154 ?_;refine eQ [0] (j) ?_;refine eQ [1] (o) ?_;refine cQ (z1M _) ?_;refine effP [1] (z5L c m d) ?_;rfl
     rw [if_neg d];refine q0b (by simp) ?_;refine rQ fi154 ?_;refine eQ [0] (j) ?_;refine eQ [1] (o) ?_;refine cQ (z1M _) ?_;refine eQ [1] (z6p c m (by omega)) ?_;trivial
  rw [q3W u];have j:=q3n i B b n y A h u;generalize takeE (tagB i) (b.drop n)=e at*;refine q0b (by simp) ?_;refine rQ fi154 ?_;refine eQ [0] (j) ?_;exact ⟨λ_=>trivial,λq=>absurd (by omega) u⟩
theorem j5p(i:Nat)(B:i<=30)(b:List UInt8)(n:Nat)(y:n<=b.length)(A:b.length<=1099511627776):EffX Tryz.prog 155 [.ptr 0 0,rI i,.fn 74 [] []] b n (λv=>.isl .u8 v) (needP i octP (b.drop n)):=by
 cases h:nextB i (b.drop n) with
 |false=>
  rw [q2r h,Ah];have j:=q3p i B b n y h;have F:=q3d b n y;generalize b.length-n=q at*;refine q0b (by simp) ?_;refine rQ fi155 ?_;refine eQ [0] (j) ?_;refine eQ [0] (F) ?_;by_cases D:q=0
  . simp [D]
  simp [D]
 |true=>
  rw [q2v h];by_cases u:takeE (tagB i) (b.drop n)=0
  . rw [q3o u];have j:=q3l i B b n y A h u;have G:=q1K (n:=n) A;generalize takeC (b.drop n)=c at*;generalize takeN (b.drop n)=N at*;cases w:octP c with
    |error e=>have o:=z8H c 0 (Aj _) G (by rw [Ap];exact w);refine q0b (by simp) ?_;refine rQ fi155 ?_;refine eQ [0] (j) ?_;refine eQ [1] (o) ?_;refine effP [] (q9s [] e (q7f w)) ?_;trivial
    |ok x=>
     obtain ⟨v,m⟩:=x;have I:=q4L _ _ _ w;have o:=z9n c 0 (Aj _) G (by rw [Ap];exact w);have F:=q3d c m I;rw [Ag] at o;simp only [closeP];by_cases d:m<c.length
     . rw [if_pos d];refine q0b (by simp) ?_;refine rQ fi155 ?_;refine eQ [0] (j) ?_;refine eQ [1] (o) ?_;refine cQ (q7O _) ?_;refine effP [1] (z5L c m d) ?_;rfl
     rw [if_neg d];refine q0b (by simp) ?_;refine rQ fi155 ?_;refine eQ [0] (j) ?_;refine eQ [1] (o) ?_;refine cQ (q7O _) ?_;refine eQ [1] (z6p c m (by omega)) ?_;trivial
  rw [q3W u];have j:=q3n i B b n y A h u;generalize takeE (tagB i) (b.drop n)=e at*;refine q0b (by simp) ?_;refine rQ fi155 ?_;refine eQ [0] (j) ?_;exact ⟨λ_=>trivial,λq=>absurd (by omega) u⟩
theorem j9V(i:Nat)(D:i<=30)(b:List UInt8)(n:Nat)(A:n<=b.length)(B:b.length<=1099511627776):EffX Tryz.prog 139 [.ptr 0 0,rI i,.fn 138 [] []] b n (λv=>rS v) (needP i strP (b.drop n)):=by
 cases h:nextB i (b.drop n) with
 |false=>
  rw [q2r h,Ah];have d:=q3p i D b n A h;have w:=q3d b n A;generalize b.length-n=q at*;refine q0b (by simp) ?_;refine rQ fi139 ?_;refine eQ [0] (d) ?_;refine eQ [0] (w) ?_;by_cases F:q=0
  . simp [F]
  simp [F]
 |true=>
  rw [q2v h];by_cases o:takeE (tagB i) (b.drop n)=0
  . rw [q3o o];have d:=q3l i D b n A B h o;have G:=q1K (n:=n) B;generalize takeC (b.drop n)=c at*;generalize takeN (b.drop n)=N at*;cases y:strP c with
    |error e=>have j:=z9f c 0 (Aj _) G (by rw [Ap];exact y);refine q0b (by simp) ?_;refine rQ fi139 ?_;refine eQ [0] (d) ?_;refine eQ [1] (j) ?_;refine effP [] (q6S (.string ⟨#[]⟩) e (q7f y)) ?_;trivial
    |ok x=>
     obtain ⟨v,m⟩:=x;have I:=q4L _ _ _ y;have j:=z7X c 0 (Aj _) G (by rw [Ap];exact y);have w:=q3d c m I;rw [Ag] at j;simp only [closeP];by_cases u:m<c.length
     . rw [if_pos u];refine q0b (by simp) ?_;refine rQ fi139 ?_;refine eQ [0] (d) ?_;refine eQ [1] (j) ?_;refine cQ (q7S _) ?_;refine eQ [1] (w) ?_;exact ⟨λ_=>rfl,λq=>absurd (by omega) q⟩
     rw [if_neg u];refine q0b (by simp) ?_;refine rQ fi139 ?_;refine eQ [0] (d) ?_;refine eQ [1] (j) ?_;refine cQ (q7S _) ?_;refine eQ [1] (w) ?_;exact ⟨λq=>absurd q (by omega),λ_=>trivial⟩
  rw [q3W o];have d:=q3n i D b n A B h o;generalize takeE (tagB i) (b.drop n)=e at*;refine q0b (by simp) ?_;refine rQ fi139 ?_;refine eQ [0] (d) ?_;exact ⟨λ_=>trivial,λq=>absurd (by omega) o⟩
def zO(res:α->SV):Except Nat (α×Nat)->Out
 |.ok (v,_)=>.ret (res v)
 |.error e=>.pan (errV e)
def zH(b:List UInt8)(n m:Nat):Except Nat (α×Nat)->List SObj
 |.ok (_,k)=>[rdr b (n+k)]
 |.error _=>[rdr b m]
attribute [go_sem] zO zH
def EffZ(P:Program)(f:FuncId)(args:List SV)(b:List UInt8)(n m:Nat)(res:α->SV)(x:Except Nat (α×Nat)):Prop:=PE P f args [rdr b n] (zO res x) (zH b n m x)
def q7G(h:VC P f args [rdr b n] (SealO (zO res x) (zH b n m x))):EffZ P f args b n m res x:=by
 cases x with
 |error e=>exact q0b (by simp [zH]) h
 |ok y=>exact q0b (by simp [zH]) h
def z4C(h:EffZ P f args b n m res x)(d:x= .ok (v,k)):PE P f args [rdr b n] (.ret (res v)) [rdr b (n+k)]:=by rw [d] at h;exact h
def z3o(h:EffZ P f args b n m res x)(d:x= .error e):PE P f args [rdr b n] (.pan (errV e)) [rdr b m]:=by rw [d] at h;exact h
def posX(b:List UInt8)(n:Nat):Nat:=if takeE 48 (b.drop n)=0 then n+takeN (b.drop n) else n
def j5j(h:takeE 48 (b.drop n)=0):posX b n=n+takeN (b.drop n):=if_pos h
def j4X(h:takeE 48 (b.drop n)≠0):posX b n=n:=if_neg h
def tripIn:PR Key:=bindP (needP 0 intP) λa=>bindP (needP 1 intP) λk=>bindP (needP 2 octP) λc=>retP ((a,k,c):Key)
def keyP:PR Key:=inP 48 tripIn
variable {f:α->PR β}
def q7x(h:p b= .ok (v,k)):bindP p f b=shiftP k (f v (b.drop k)):=by have:=q1R (f:=f) (b:=b) (n:=0) (by rw [Ap];exact h);rwa [Ap,Ag] at this
theorem j0m(b:List UInt8)(n:Nat)(I:n<=b.length)(u:b.length<=1099511627776):
 EffZ Tryz.prog 149 [.ptr 0 0] b n (posX b n) (λv:Key=>.tup [rI v.1,rI v.2.1,.isl .u8 v.2.2]) (keyP (b.drop n)):=by
 unfold keyP;by_cases h:takeE 48 (b.drop n)=0
 . have w:=q6p b n I u h;have B:=q1K (n:=n) u;rw [q3o h,j5j h];generalize takeC (b.drop n)=c at*;generalize takeN (b.drop n)=N at*;unfold tripIn;refine q7G ?_;refine rQ fi149 ?_;refine eQ [0] (w) ?_;refine eQ [1] (q8h c 0) ?_;have A:=z8X 0 (by omega) c 0 (Aj _) B;rw [Ap] at A;cases i:needP 0 intP c with
   |error e=>rw [q1f i];have e1':=q2A A i;simp only [closeP];refine effP [1] (e1') ?_;trivial
   |ok x=>
    obtain ⟨v1,o⟩:=x;rw [q7x i];have e1':=q1d A i;have F:=q0X _ _ _ i;rw [Ag] at e1';refine eQ [1] (e1') ?_;have G:=z8X 1 (by omega) c _ F B;cases d:needP 1 intP (c.drop o) with
    |error e=>rw [q1f d];have e2':=q2A G d;simp only [shiftP,closeP];refine effP [1] (e2') ?_;trivial
    |ok x=>
     obtain ⟨v2,y⟩:=x;rw [q1R d];have e2':=q1d G d;have J:=q2U q0X F d;refine eQ [1] (e2') ?_;have K:=j5p 2 (by omega) c _ J B;cases j:needP 2 octP (c.drop (o+y)) with
     |error e=>rw [q1f j];have e3':=q2A K j;simp only [shiftP,closeP];refine effP [1] (e3') ?_;trivial
     |ok x=>
      obtain ⟨v3,D⟩:=x;rw [q1R j];have e3':=q1d K j;have f3:=q2U q0X J j;simp only [shiftP,retP,closeP];refine eQ [1] (e3') ?_;by_cases L:o+y+D<c.length
      . rw [if_pos (by omega)];refine effP [1] (z5L c _ L) ?_;rfl
      rw [if_neg (by omega)];refine eQ [1] (z6p c (o+y+D) (by omega)) ?_;trivial
 have w:=q6L b n I u h;rw [q3W h,j4X h];generalize takeE 48 (b.drop n)=e at*;refine q7G ?_;refine rQ fi149 ?_;refine eQ [0] (w) ?_;refine effP [] (q4k e h) ?_;trivial
theorem j9f(b:List UInt8)(n:Nat)(h:n<=b.length)(i:b.length<=1099511627776):
 EffZ Tryz.prog 148 [.ptr 0 0] b n (posX b n) (λv:Key=>.agg (KeyT.cells v)) (keyP (b.drop n)):=by
 have d:=j0m b n h i;refine q7G ?_;generalize keyP (b.drop n)=X at*;cases X with
 |error e=>have ht':=z3o d rfl;refine rQ fi148 ?_;refine effP [0] (ht') ?_;trivial
 |ok x=>obtain ⟨v,k⟩:=x;have ht':=z4C d rfl;refine rQ fi148 ?_;refine eQ [0] (ht') ?_;trivial
def q4q(i:n<=30)(h:b.length<=16777215)(d:b≠ []):wrapS 160 n b=tlv (tagB n) b:=by rw [q3J i h,if_neg d]
def q1q{t:UInt8}:tlv t c≠ []:=by simp [tlv]
def z0h(a v:Int)(c:List UInt8)(ha:0<=a/\a<=1048576)(hv:0<=v/\v<=1048576)(hc:c.length<=65536):keyS (a,v,c)=tlv 48 (sufS [intS a,intS v,elemS 4 [c]] 0 3)/\(sufS [intS a,intS v,elemS 4 [c]] 0 3).length<=16777215:=by
 have i1:=q1g a;have i2:=q1g v;obtain ⟨c1,A,_⟩:=q5C (v:=a) (by omega);obtain ⟨c2,y,_⟩:=q5C (v:=v) (by omega);have B:elemS 4 [c]=tlv 4 c:=q0A (by omega);have u:=q0n 4 [c];simp only [Ak,Aq,Ac] at u;have w0:=q0o 160 0 (intS a);have w1:=q0o 160 1 (intS v);have w2:=q0o 160 2 (elemS 4 [c]);have w:wrapS 160 0 (intS a)≠ []:=by rw [show (0:Int)=((0:Nat):Int) from rfl,q4q (by omega) (by omega) (by rw [A];exact q1q)];exact q1q
 have F:wrapS 160 1 (intS v)≠ []:=by rw [show (1:Int)=((1:Nat):Int) from rfl,q4q (by omega) (by omega) (by rw [y];exact q1q)];exact q1q
 have G:wrapS 160 2 (elemS 4 [c])≠ []:=by rw [show (2:Int)=((2:Nat):Int) from rfl,q4q (by omega) (by omega) (by rw [B];exact q1q)];exact q1q
 have h:(tagN [intS a,intS v,elemS 4 [c]] 3).flatten=sufS [intS a,intS v,elemS 4 [c]] 0 3:=q5k [intS a,intS v,elemS 4 [c]];have i:tagN [intS a,intS v,elemS 4 [c]] 3= [wrapS 160 0 (intS a),wrapS 160 1 (intS v),wrapS 160 2 (elemS 4 [c])]:=by simp [tagN,Be]
 have o:(sufS [intS a,intS v,elemS 4 [c]] 0 3).length<=16777215:=by rw [<-h,i];simp only [Ak,Aq,Ac,Ab];omega
 refine ⟨?_,o⟩;have d:allN 3 (fullAt [wrapS 160 0 (intS a),wrapS 160 1 (intS v),wrapS 160 2 (elemS 4 [c])])=true:=by
  refine q0v λj D=> ?_;match j,D with
  |0,_=>exact decide_eq_true w
  |1,_=>exact decide_eq_true F
  |2,_=>exact decide_eq_true G
 show wholeS [wrapS 160 0 (intS a),wrapS 160 1 (intS v),wrapS 160 2 (elemS 4 [c])]=_;unfold wholeS;rw [show ([wrapS 160 0 (intS a),wrapS 160 1 (intS v),wrapS 160 2 (elemS 4 [c])]:List (List UInt8)).length=3 from rfl,if_pos d,<-i,q1u (by rw [h];exact o),h]
def j5G(a v:Int)(c:List UInt8)(F:0<=a/\a<=1048576)(D:0<=v/\v<=1048576)(K:c.length<=65536)(r:List UInt8):keyP (keyS (a,v,c)++r)= .ok ((a,v,c),(keyS (a,v,c)).length):=by
 have i1:=q1g a;have i2:=q1g v;obtain ⟨c1,A,_⟩:=q5C (v:=a) (by omega);obtain ⟨c2,y,_⟩:=q5C (v:=v) (by omega);have B:elemS 4 [c]=tlv 4 c:=q0A (by omega);have o:=q0n 4 [c];simp only [Ak,Aq,Ac] at o;have d:∀j,(([intS a,intS v,elemS 4 [c]]:List (List UInt8)).getD j []).length<=16777215:=λj=>by
  match j with
  |0=>show (intS a).length<=_;omega
  |1=>show (intS v).length<=_;omega
  |2=>show (elemS 4 [c]).length<=_;omega
  |j+3=>exact Aj _
 obtain ⟨G,h⟩:=z0h a v c F D K;rw [G];refine q4g h ?_ r;have i:intP (([intS a,intS v,elemS 4 [c]]:List (List UInt8)).getD 0 [])= .ok (a,(([intS a,intS v,elemS 4 [c]]:List (List UInt8)).getD 0 []).length):=full (e:=intS a) (q6o (by omega));have u:intP (([intS a,intS v,elemS 4 [c]]:List (List UInt8)).getD 1 [])= .ok (v,(([intS a,intS v,elemS 4 [c]]:List (List UInt8)).getD 1 []).length):=full (e:=intS v) (q6o (by omega));have L:octP (([intS a,intS v,elemS 4 [c]]:List (List UInt8)).getD 2 [])= .ok (c,(([intS a,intS v,elemS 4 [c]]:List (List UInt8)).getD 2 []).length):=full (e:=elemS 4 [c]) (z4x (by omega));have w:([intS a,intS v,elemS 4 [c]]:List (List UInt8)).getD 0 []≠ []:=by show intS a≠ [];rw [A];exact q1q
 have I:([intS a,intS v,elemS 4 [c]]:List (List UInt8)).getD 1 []≠ []:=by show intS v≠ [];rw [y];exact q1q
 have J:([intS a,intS v,elemS 4 [c]]:List (List UInt8)).getD 2 []≠ []:=by show elemS 4 _≠ [];rw [B];exact q1q
 have g:=q3H (f:=λa=>bindP (needP 1 intP) λk=>bindP (needP 2 octP) λc=>retP ((a,k,c):Key)) (q1Q (k:=2) d (by omega) w i)
  (q3H (f:=λk=>bindP (needP 2 octP) λc=>retP ((a,k,c):Key)) (q1Q (k:=1) d (by omega) I u)
   (q3H (f:=λc=>retP ((a,v,c):Key)) (q1Q (k:=0) d (by omega) J L) rfl))
 show tripIn _=_;unfold tripIn;rw [g];congr 2;rw [q0S,q0S,q0S];simp only [sufS,List.range'_zero,BJ,Aq,Ac,Ab,Ag,Nat.reduceAdd];omega
def j4k(a v:Int)(c:List UInt8):(keyS (a,v,c)).length<=c.length+58:=by
 have i1:=q1g a;have i2:=q1g v;have h:=q0n 4 [c];simp only [Ak,Aq,Ac] at h;have w0:=q0o 160 0 (intS a);have w1:=q0o 160 1 (intS v);have w2:=q0o 160 2 (elemS 4 [c]);show (wholeS [wrapS 160 0 (intS a),wrapS 160 1 (intS v),wrapS 160 2 (elemS 4 [c])]).length<=_;have d:=q0n 48 [wrapS 160 0 (intS a),wrapS 160 1 (intS v),wrapS 160 2 (elemS 4 [c])];simp only [Ak,Aq,Ac,Ab] at d;unfold wholeS;split
 . omega
 simp
def flat_len{α:Type}(f:α->List UInt8)(B:Nat):∀l:List α,(∀x∈l,(f x).length<=B)->(l.map f).flatten.length<=B*l.length
 | [],_=>by simp
 |x :: l,h=>by have h1:=h x (by simp);have h2:=flat_len f B l λy d=>h y (by simp [d]);simp only [AB,Ak,Ab,As,CX,AO];omega
def keyOk3(a v:Int)(c:List UInt8):Prop:=(0<=a/\a<=1048576)/\(0<=v/\v<=1048576)/\c.length<=65536
def keyOk:Key->Prop
 | (a,v,c)=>keyOk3 a v c
variable {k:Key}
def j5F(h:keyOk k)(r:List UInt8):keyP (keyS k++r)= .ok (k,(keyS k).length):=by obtain ⟨a,v,c⟩:=k;exact j5G a v c h.1 h.2.1 h.2.2 r
def j5P(h:keyOk k):(keyS k).length<=65600:=by obtain ⟨a,v,c⟩:=k;have d:=j4k a v c;have h2:c.length<=65536:=h.2.2;exact Ao d (by omega)
def z8v(h:keyOk k):keyS k≠ []:=by obtain ⟨a,v,c⟩:=k;rw [(z0h a v c h.1 h.2.1 h.2.2).1];exact q1q
variable {l:List (List UInt8)}
def j1J(h:(sufS l 0 l.length).length<=16777215):tagS l=tlv 48 (sufS l 0 l.length):=by unfold tagS;rw [q1u (by rw [q5k];exact h),q5k]
def z4q{l:List (List UInt8)}:∀ (k n:Nat),(sufS l n k).length<=((List.range' n k).map λj=>(l.getD j []).length+5).sum
 |0,n=>by simp [sufS]
 |k+1,n=>by rw [q0S,Cp];have:=q0o 160 (n:Nat) (l.getD n []);have:=z4q (l:=l) k (n+1);simp only [Ab,AB,List.sum_cons];omega
def atP(p:PR α)(l:List UInt8):PR α:=λ_=>match p l with
 |.ok (x,_)=>.ok (x,0)
 |.error e=>.error e
def strsP(l:List UInt8):PR (List ByteArray):=atP (listP strP l.length) l
def nameIn:PR Prin:=bindP (needP 0 (rdP 48 decOct)) λl=>bindP (strsP l) λxs=>bindP (needP 1 strP) λt=>retP ((xs,t):Prin)
def chkP(q:α->Bool):Except Nat (α×Nat)->Except Nat (α×Nat)
 |.ok (v,k)=>if q v=true then .ok (v,k) else .error 6
 |.error e=>.error e
def nameP:PR Prin:=λr=>chkP vPrin (inP 48 nameIn r)
def j0t{α:Type}(f:α->List UInt8):∀l:List α,(∀x∈l,f x≠ [])->l.length<=(l.map f).flatten.length
 | [],_=>by simp
 |x :: l,h=>by have h1:=List.length_pos_iff.2 (h x (by simp));have h2:=j0t f l λy d=>h y (by simp [d]);simp only [AB,Ak,Ab,As];omega
def strE(s:ByteArray):List UInt8:=elemS 27 [s.data.toList]
def z0K(s:ByteArray):(strE s).length<=s.size+5:=by
 have:=q0n 27 [s.data.toList];have hl:s.data.toList.length=s.size:=by simp
 simp only [Ak,Aq,Ac] at this;unfold strE;omega
def z4j(h:s.size<=16777215):strE s≠ []:=by
 have hl:s.data.toList.length=s.size:=by simp
 unfold strE;rw [q0A (by omega)];exact q1q
def z2z(xs:List ByteArray)(t:ByteArray)(I:xs.length<=16)(h:∀x∈xs,x.size<=65536)(ht:t.size<=65536):
 (sufS [elemS 48 (strsN xs xs.length),strE t] 0 2).length<=1200000/\nameIn (sufS [elemS 48 (strsN xs xs.length),strE t] 0 2)= .ok ((xs,t),(sufS [elemS 48 (strsN xs xs.length),strE t] 0 2).length):=by
 have u:strsN xs xs.length=xs.map strE:=by unfold strsN strE;rw [Aw]
 have hb:(xs.map strE).flatten.length<=1048700:=by
  have:=flat_len strE 65541 xs λx d=>by have:=z0K x;have:=h x d;omega
  have h4:65541*xs.length<=65541*16:=B7 _ I;omega
 have y:elemS 48 (strsN xs xs.length)=tlv 48 (xs.map strE).flatten:=by rw [u,q1u (by omega)]
 have F:=j0t strE xs λx d=>z4j (by have:=h x d;omega);have l1:=z0K t;have l0:(elemS 48 (strsN xs xs.length)).length<=1048705:=by have:=q0n 48 (strsN xs xs.length);rw [u] at this⊢;omega
 have G:=z4q (l:=[elemS 48 (strsN xs xs.length),strE t]) 2 0;have o:(sufS [elemS 48 (strsN xs xs.length),strE t] 0 2).length<=1200000:=by refine Ao G ?_;show (elemS 48 (strsN xs xs.length)).length+5+ ((strE t).length+5+0)<=_;omega
 refine ⟨o,?_⟩;have w:∀j,(([elemS 48 (strsN xs xs.length),strE t]:List (List UInt8)).getD j []).length<=16777215:=λj=>by
  match j with
  |0=>show (elemS 48 (strsN xs xs.length)).length<=_;omega
  |1=>show (strE t).length<=_;omega
  |j+2=>exact Aj _
 have A:rdP 48 decOct (elemS 48 (strsN xs xs.length))= .ok ((xs.map strE).flatten,(elemS 48 (strsN xs xs.length)).length):=by rw [y];exact full (q8y (by omega) rfl)
 have D:elemS 48 (strsN xs xs.length)≠ []:=by rw [y];exact q1q
 have B:listP strP (xs.map strE).flatten.length (xs.map strE).flatten= .ok (xs,(xs.map strE).flatten.length):=z0o xs _ F λx d=>⟨z4j (by have:=h x d;omega),z8S (by have:=h x d;omega)⟩
 have i:∀r,strsP (xs.map strE).flatten r= .ok (xs,0):=λr=>by unfold strsP atP;rw [B]
 have K:strP (strE t)= .ok (t,(strE t).length):=full (z8S (by omega));have J:strE t≠ []:=z4j (by omega);have g:=q3H (f:=λl=>bindP (strsP l) λxs=>bindP (needP 1 strP) λt=>retP ((xs,t):Prin)) (q1Q (l:=[elemS 48 (strsN xs xs.length),strE t]) (n:=0) (k:=1) w (by omega) D A)
  (q3H (p:=strsP (xs.map strE).flatten) (f:=λxs=>bindP (needP 1 strP) λt=>retP ((xs,t):Prin)) (r':=sufS [elemS 48 (strsN xs xs.length),strE t] 1 1) ⟨i _,Ap⟩
   (q3H (f:=λt=>retP ((xs,t):Prin)) (q1Q (l:=[elemS 48 (strsN xs xs.length),strE t]) (n:=1) (k:=0) w (by omega) J K) rfl))
 unfold nameIn;rw [g];congr 2;rw [q0S,q0S];simp only [sufS,List.range'_zero,BJ,Aq,Ac,Ab,Ag,Nat.reduceAdd];omega
def j3N(xs:List ByteArray)(t:ByteArray)(u:xs.length<=16)(o:∀x∈xs,x.size<=65536)(j:t.size<=65536)(d:vPrin (xs,t)=true):
 (∀r:List UInt8,nameP (prinS (xs,t)++r)= .ok ((xs,t),(prinS (xs,t)).length))/\(prinS (xs,t)).length<=1200010/\prinS (xs,t)≠ []:=by
 obtain ⟨h1,h⟩:=z2z xs t u o j;have i:prinS (xs,t)=tlv 48 (sufS [elemS 48 (strsN xs xs.length),strE t] 0 2):=by
  show elemS 48 [wrapS 160 0 (elemS 48 (strsN xs xs.length)),wrapS 160 1 (strE t)]=_;have e:([wrapS 160 0 (elemS 48 (strsN xs xs.length)),wrapS 160 1 (strE t)]:List (List UInt8)).flatten=sufS [elemS 48 (strsN xs xs.length),strE t] 0 2:=by rw [q0S,q0S];simp [sufS]
  rw [q1u (by rw [e];omega),e]
 rw [i];refine ⟨λr=> ?_,?_,q1q⟩
 . unfold nameP;rw [q4g (by omega) h r];simp only [chkP];rw [if_pos d]
 rw [q0J];have:=q2b (sufS [elemS 48 (strsN xs xs.length),strE t] 0 2).length;omega
def z1i{B:Nat}:∀ (m:List (List UInt8)),(∀x∈m,x.length<=B)->m.flatten.length<=B*m.length
 | [],_=>by simp
 |x :: m,h=>by have h1:=h x (by simp);have h2:=z1i m (λy d=>h y (by simp [d]));simp only [Ak,Ab,As,CX,AO];omega
variable {k:Nat}
def q9C{l:List ByteArray}(hl:l.length<=4)(h:∀x∈l,x.size<=32):(strsN l k).flatten.length<=148:=by
 have h1:=z1i (B:=37) (strsN l k) (λx d=>by
  unfold strsN at d;rw [Br] at d;obtain ⟨y,j,rfl⟩:=d;have i:=h y (B3 j);have o:=q0n 27 [y.data.toList];have h4:y.data.toList.length=y.size:=by simp
  simp only [Ak,Aq,Ac] at o
  omega)
 have i:(strsN l k).length<=4:=by unfold strsN;simp;omega
 have:37* (strsN l k).length<=37*4:=B7 _ i;omega
def q2s{u:β}(h:p (sufS l n (k+1))= .ok (v,(wrapS 160 (n:Nat) (l.getD n [])).length)/\(sufS l n (k+1)).drop (wrapS 160 (n:Nat) (l.getD n [])).length=sufS l (n+1) k)
 (d:f v (sufS l (n+1) k)= .ok (u,(sufS l (n+1) k).length)):bindP p f (sufS l n (k+1))= .ok (u,(sufS l n (k+1)).length):=by
 rw [q3H h d,q0S l n k,Ab]
def q5n{p:Prin}(h:vPrin p=true):p.1.length<=4/\(∀x∈p.1,x.size<=32)/\p.2.size<=32:=by simp only [vPrin,Ai,decide_eq_true_eq,z2L,szB,q2H] at h;refine ⟨by omega,λx i=> ?_,by omega⟩;obtain ⟨j,d,rfl⟩:=AM i;have:=h.2 j d;rw [j5L d] at this;simp only [vPart,szB,Ai,decide_eq_true_eq] at this;omega
def j4d{p:Prin}(h:vPrin p=true):(prinS p).length<=205:=by
 obtain ⟨o,j,u⟩:=q5n h;obtain ⟨xs,t⟩:=p;have f:=q9C (l:=xs) (k:=xs.length) o j;have g1:=q0n 48 (strsN xs xs.length);have i:=q0n 27 [t.data.toList];have g3:t.data.toList.length=t.size:=by simp
 simp only [Ak,Aq,Ac] at i;have g4:=q0o 160 0 (elemS 48 (strsN xs xs.length));have g5:=q0o 160 1 (elemS 27 [t.data.toList]);have d:=q0n 48 [wrapS 160 0 (elemS 48 (strsN xs xs.length)),wrapS 160 1 (elemS 27 [t.data.toList])];simp only [Ak,Aq,Ac,Ab] at d;have h3':t.size<=32:=u;refine Ao d ?_;omega
def j2b{p:Prin}(h:vPrin p=true):(∀r:List UInt8,nameP (prinE p++r)= .ok (p,(prinE p).length))/\(prinE p).length<=205/\prinE p≠ []:=by
 have d:=j4d h;obtain ⟨o,j,u⟩:=q5n h;have i:prinE p=prinS p:=by unfold prinE;rw [if_pos h]
 rw [i];obtain ⟨xs,t⟩:=p;have h1':xs.length<=4:=o;have h3':t.size<=32:=u;have:=j3N xs t (by omega) (λx w=>by have:=j x w;omega) (by omega) h;exact ⟨this.1,d,this.2.2⟩
abbrev PreT:Ty:=.prod I64 (.slice .u8)
abbrev Pre:=PreT.den
def mIn(lo hi v:Int):Bool:=decide (lo<=v) && decide (v<=hi)
def vTime(t:Int):Bool:=mIn 0 1099511627776 t
def vPre1(p:Pre):Bool:=mIn 0 2147483647 p.1&& decide ((p.2.length:Int)<=16384)
def preAt(l:List Pre)(j:Nat):Bool:=vPre1 (l.getD j PreT.dflt)
def vPre(l:List Pre):Bool:=decide ((l.length:Int)<=16) && allN l.length (preAt l)
def j9F(n:Int)(b:List UInt8):PC Tryz.prog 41 [rI n,.isl .u8 b] (.isl .u8 (wrapS 96 n b)):=by refine q0g rfl rfl ?_;refine rQ fi41 ?_;refine cQ (z3h 96 n b (by omega)) ?_;trivial
def datS(d:Pre):List UInt8:=fieldsS [intS d.1,elemS 4 [d.2]]
def dataS(l:List Pre):List UInt8:=if l.length<=16 then wholeS (mapN (t:=PreT) datS l l.length) else []
def k0n(l:List Pre):PC Tryz.prog 38 [.isl PreT l] (.isl .u8 (dataS l)):=by
 refine q0g rfl rfl ?_;refine rQ fi38 ?_;refine ⟨λh=> ?_,λh=> ?_⟩
 . unfold dataS;rw [if_neg (by omega)]
 have u:l.length<=16:=by omega
 refine q2Z 3 (.slice .u8) (mapN (t:=PreT) datS l) (λi=>[(11,rI i)]) l.length (λ_=>True) rfl (by simp) (by simp [mapN]) rfl (λi=>rfl) ?_ λi y _=> ?_
 . with_reducible refine sxE ?_;trivial
 have o:=wsx i (by omega);have hln:=z5l (t:=PreT) (w:=datS) y;refine gQ ?_;refine ⟨λd=>⟨⟨by omega,d⟩,q0d (q3c _) ?_⟩,λhge=> ?_⟩
 . refine gQ ?_;refine cR (z1C _) ?_;refine q0Y 2 (by decide) ?_;with_reducible refine sxE ?_
   refine cR (z5S _ (by simp)) ?_;have j:=z2Q (t:=PreT) (w:=datS) d;refine ⟨⟨by omega,by omega⟩,q1P [_,_,_,_] [] d trivial (by rw [j];rfl) ?_⟩;with_reducible refine sx3 o j ?_;trivial
 obtain rfl:i=l.length:=by omega
 refine q0x 0 ?_;with_reducible refine sxE ?_
 refine ⟨by omega,Ad _,?_⟩;rw [Aa (Ad _)];refine cQ (z7K _ (by omega)) ?_;unfold dataS;rw [if_pos u]
def ErrP(p:PR α):Prop:=∀r e,p r= .error e->e≠0
def q4m{dec:List UInt8->Option α}:ErrP (rdP tag dec):=λ_ _ h=>q7f h
def q8Y(i:ErrP p):ErrP (inP tag p):=λr e h=>by
 rcases q8s (tag:=tag) (p:=p) (r:=r) with ⟨o,d⟩ | ⟨_,e1,j,d⟩ | ⟨_,_,_,_,_,d⟩ | ⟨_,_,_,_,_,d⟩ <;>rw [d] at h<;>cases h
 . exact o
 . exact i _ _ j
 decide
def q3a(i:ErrP p):ErrP (needP n p):=λr e h=>by
 cases d:nextB n r with
 |false=>rw [q2r d] at h;split at h<;>cases h<;>decide
 |true=>rw [q2v d] at h;exact q8Y i r e h
def q2y(j:ErrP p)(o:∀v,ErrP (f v)):ErrP (bindP p f):=λr e h=>by
 unfold bindP at h;cases i:p r with
 |error e1=>rw [i] at h;cases h;exact j r _ i
 |ok y=>
  obtain ⟨u,k⟩:=y;rw [i] at h;simp only at h;cases d:f u (r.drop k) with
  |error e2=>rw [d] at h;cases h;exact o u _ _ d
  |ok z=>obtain ⟨w,l⟩:=z;rw [d] at h;cases h
def z0i:ErrP (retP v):=λ_ _ h=>by cases h
def j8z:ErrP keyP:=q8Y (q2y (q3a q4m) λ_=>q2y (q3a q4m) λ_=>q2y (q3a q4m) λ_=>z0i)
def EffR(P:Program)(f:FuncId)(args:List SV)(b:List UInt8)(n:Nat)(res:α->SV)(z:SV):Except Nat (α×Nat)->Prop
 |.ok (v,k)=>PE P f args [rdr b n] (.ret (.tup [res v,rI 0])) [rdr b (n+k)]
 |.error e=>PE P f args [rdr b n] (.ret (.tup [z,rI e])) [rdr b n]
variable {f:FuncId}{z:SV}
def q4j(h:EffR P f args b n res z x)(d:x= .ok (v,k)):PE P f args [rdr b n] (.ret (.tup [res v,rI 0])) [rdr b (n+k)]:=by rw [d] at h;exact h
def q4f(h:EffR P f args b n res z x)(d:x= .error e):PE P f args [rdr b n] (.ret (.tup [z,rI e])) [rdr b n]:=by rw [d] at h;exact h
abbrev zKey:SV:=.agg [rI 0,rI 0,.isl .u8 []]
def j8r(b:List UInt8)(n m e:Nat)(o d i j:TypeId)(y:Value)(K:List SObj->Prop)
 (h:∀G,K ([rdr b n,.cells o [.ptr 0 0],.cells d [rI 0,rI 0,.raw (.slice none 0 0)],.cells i [rI e],.cells j [rI n]]++G)):
 DCall Tryz.prog 188 [.ptr 4 0,.ptr 1 0,.ptr 2 0,.ptr 3 0] (some (errV e)) [rdr b m,.cells o [.ptr 0 0],.cells d [rI 0,rI 0,.raw (.slice none 0 0)],.cells i [.raw y],.cells j [rI n]] K:=by
 refine j6t fi188 ?_;refine uQ 16 _ ?_;with_reducible refine sxE ?_
 refine q1x [999999,1,4,5] mixed ?_;refine uQ 600 _ ?_;simp (maxSteps:=3000000) only [List.getElem?_nil,go_sem,↓zA,↓reduceIte,↓reduceDIte] <;>try simp only [zB]
 exact h _
def j5T(H:List SObj)(K:List SObj->Prop)(h:∀G,K (H++G)):DCall Tryz.prog 188 [.ptr 4 0,.ptr 1 0,.ptr 2 0,.ptr 3 0] none H K:=by refine recE mixed fi188 ?_;simpa using h []
theorem k0b(b:List UInt8)(n:Nat)(h:n<=b.length)(i:b.length<=1099511627776):
 EffR Tryz.prog 147 [.ptr 0 0,.fn 148 [] []] b n (λv:Key=>.agg (KeyT.cells v)) zKey (keyP (b.drop n)):=by
 have d:=j9f b n h i;generalize keyP (b.drop n)=X at*;cases X with
 |error e=>have hk':=z3o d rfl;refine q0b (by simp) ?_;refine defE mixed fi147 ?_;refine gQ ?_;refine effP [0] (hk') ?_;refine ⟨by simp,j8r b n _ e _ _ _ _ _ _ λG=> ?_⟩;with_reducible refine sxE ?_;trivial
 |ok x=>obtain ⟨v,k⟩:=x;have hk':=z4C d rfl;refine q0b (by simp) ?_;refine defE mixed fi147 ?_;refine gQ ?_;refine eQ [0] (hk') ?_;refine j5T _ _ λG=> ?_;with_reducible refine sxE ?_;trivial
theorem j8m(b:List UInt8)(n:Nat)(h:n<=b.length)(i:b.length<=1099511627776):
 EffR Tryz.prog 77 [.ptr 0 0] b n (λv:Key=>.agg (KeyT.cells v)) zKey (keyP (b.drop n)):=by
 have d:=k0b b n h i;generalize keyP (b.drop n)=X at*;cases X with
 |error e=>have hk':=q4f d rfl;refine q0b (by simp) ?_;refine rQ fi77 ?_;refine eQ [0] (hk') ?_;trivial
 |ok x=>obtain ⟨v,k⟩:=x;have hk':=q4j d rfl;refine q0b (by simp) ?_;refine rQ fi77 ?_;refine eQ [0] (hk') ?_;trivial
def FR(i:Nat)(b:List UInt8)(n:Nat):Except Nat (List UInt8×Nat)->Prop
 |.ok (l,k)=>PE Tryz.prog 136 [.ptr 0 0,rI i,.fn 66 [] []] [rdr b n] (.ret (.ptr 2 0)) [rdr b (n+k),.dead,rdr l 0]
 |.error e=>PE Tryz.prog 136 [.ptr 0 0,rI i,.fn 66 [] []] [rdr b n] (.pan (errV e)) [.dead]
theorem j9u(i:Nat)(D:i<=30)(b:List UInt8)(n:Nat)(A:n<=b.length)(B:b.length<=1099511627776):FR i b n (needP i (rdP 48 decOct) (b.drop n)):=by
 cases h:nextB i (b.drop n) with
 |false=>
  rw [q2r h,Ah];have d:=q3p i D b n A h;have y:=q3d b n A;generalize b.length-n=q at*;refine q0b (by simp) ?_;refine rQ fi136 ?_;refine eQ [0] (d) ?_;refine eQ [0] (y) ?_;by_cases G:q=0
  . simp [G]
  simp [G]
 |true=>
  rw [q2v h];by_cases u:takeE (tagB i) (b.drop n)=0
  . rw [q3o u];have d:=q3l i D b n A B h u;have I:=q1K (n:=n) B;generalize takeC (b.drop n)=c at*;generalize takeN (b.drop n)=N at*;by_cases j:takeE 48 c=0
    . have F:rdP 48 decOct c= .ok (takeC c,takeN c):=by unfold rdP;rw [if_pos j];rfl
      rw [F];have o:=q6p c 0 (Aj _) I (by rw [Ap];exact j);rw [Ap,Ag] at o;have J:=q2C j;generalize takeC c=l at*;generalize takeN c=m at*;have y:=q3d c m J;simp only [closeP];by_cases w:m<c.length
      . rw [if_pos w];refine q0b (by simp) ?_;refine rQ fi136 ?_;refine eQ [0] (d) ?_;refine eQ [1] (o) ?_;refine eQ [2] (q8f l 0) ?_;refine eQ [1] (y) ?_;exact ⟨λ_=>rfl,λq=>absurd (by omega) q⟩
      rw [if_neg w];refine q0b (by simp) ?_;refine rQ fi136 ?_;refine eQ [0] (d) ?_;refine eQ [1] (o) ?_;refine eQ [2] (q8f l 0) ?_;refine eQ [1] (y) ?_;exact ⟨λq=>absurd q (by omega),λ_=>trivial⟩
    have F:rdP 48 decOct c= .error (takeE 48 c):=by unfold rdP;rw [if_neg j]
    rw [F];have o:=q6L c 0 (Aj _) I (by rw [Ap];exact j);rw [Ap] at o;generalize takeE 48 c=e at*;refine q0b (by simp) ?_;refine rQ fi136 ?_;refine eQ [0] (d) ?_;refine eQ [1] (o) ?_;refine effP [] (q6Y e j) ?_;trivial
  rw [q3W u];have d:=q3n i D b n A B h u;generalize takeE (tagB i) (b.drop n)=e at*;refine q0b (by simp) ?_;refine rQ fi136 ?_;refine eQ [0] (d) ?_;exact ⟨λ_=>trivial,λq=>absurd (by omega) u⟩
def z8x(b:List UInt8)(n:Nat):PE Tryz.prog 133 [.ptr 0 0] [rdr b n] (.ret (.ptr 1 0)) [rdr b n,rdr b n]:=by refine q0b (by simp) ?_;refine rQ fi133 ?_;trivial
def q6r(b:List UInt8)(n m e:Nat)(o j d i:TypeId)(x y:SV)(z:Value)(R:List SObj)(K:List SObj->Prop)
 (h:K ([rdr b n,.cells o [.ptr 0 0],.cells j [.raw (.slice none 0 0),rS ⟨#[]⟩],.cells d [rI e],rdr b n,.cells i [.ptr 4 0]]++R)):
 DCall Tryz.prog 134 [.ptr 5 0,.ptr 1 0,.ptr 2 0,.ptr 3 0] (some (errV e)) ([rdr b m,.cells o [.ptr 0 0],.cells j [x,y],.cells d [.raw z],rdr b n,.cells i [.ptr 4 0]]++R) K:=by
 refine j6t fi134 ?_;refine uQ 13 _ ?_;with_reducible refine sxaE ?_
 refine q1x [1,4,5] mixed ?_;refine aQ ?_;exact h
abbrev zPrin:SV:=.agg [.isl .str [],rS ⟨#[]⟩]
def rO(res:α->SV)(z:SV):Except Nat (α×Nat)->Out
 |.ok (v,_)=>.ret (.tup [res v,rI 0])
 |.error e=>.ret (.tup [z,rI e])
def rH(b:List UInt8)(n:Nat):Except Nat (α×Nat)->List SObj
 |.ok (_,k)=>[rdr b (n+k)]
 |.error _=>[rdr b n]
attribute [go_sem] rO rH
def j8T(h:VC P f args [rdr b n] (SealO (rO res z x) (rH b n x))):EffR P f args b n res z x:=by
 cases x with
 |error e=>exact q0b (by simp [rH]) h
 |ok y=>exact q0b (by simp [rH]) h
theorem j8x(b:List UInt8)(n:Nat)(j:n<=b.length)(o:b.length<=1099511627776)(h:takeE 48 (b.drop n)≠0):
 EffR Tryz.prog 72 [.ptr 0 0] b n (λp:Prin=>.agg (PrinT.cells p)) zPrin (nameP (b.drop n)):=by
 have i:=q6L b n j o h;have d:nameP (b.drop n)= .error (takeE 48 (b.drop n)):=by unfold nameP;rw [q3W h];rfl
 rw [d];clear d;generalize takeE 48 (b.drop n)=e at*;refine q0b (by simp) ?_;refine defE mixed fi72 ?_;refine eQ [0] (z8x b n) ?_;refine gQ ?_;refine eQ [0] (i) ?_;refine effP [] (q6Y e h) ?_;refine ⟨by simp,q6r b n n e _ _ _ _ _ _ _ [] _ ?_⟩;with_reducible refine sxE ?_;trivial
variable {f:List ByteArray->PR β}
def j4c{l:List UInt8}(h:listP strP l.length l= .error e):bindP (strsP l) f r= .error e:=by unfold bindP strsP atP;rw [h]
theorem j3X{l:List UInt8}{xs:List ByteArray}(h:listP strP l.length l= .ok (xs,m)):bindP (strsP l) f r=shiftP 0 (f xs r):=by
 unfold bindP strsP atP;rw [h];simp only [Ap];cases f xs r with
 |error e=>rfl
 |ok y=>rfl
def j4x{j:Nat}:shiftP j (shiftP k x)=shiftP (j+k) x:=by
 cases x with
 |error e=>rfl
 |ok y=>obtain ⟨u,m⟩:=y;simp only [shiftP,Ax]
def j5U(H:List SObj)(K:List SObj->Prop)(h:∀G,K (H++G)):DCall Tryz.prog 134 [.ptr 5 0,.ptr 1 0,.ptr 2 0,.ptr 3 0] none H K:=by refine recE mixed fi134 ?_;simpa using h []
theorem j8c(b:List UInt8)(n:Nat)(hn:n<=b.length)(hb:b.length<=1099511627776)(h:takeE 48 (b.drop n)=0):
 EffR Tryz.prog 72 [.ptr 0 0] b n (λp:Prin=>.agg (PrinT.cells p)) zPrin (nameP (b.drop n)):=by
 have hs:=q6p b n hn hb h;have S:=q1K (n:=n) hb;have i:nameP (b.drop n)=chkP vPrin (closeP (takeC (b.drop n)).length (takeN (b.drop n)) (nameIn (takeC (b.drop n)))):=by unfold nameP;rw [q3o h]
 generalize nameP (b.drop n)=Y at*;generalize takeC (b.drop n)=c at*;generalize takeN (b.drop n)=N at*;refine j8T ?_;unfold nameIn at i;have I:=j9u 0 (by omega) c 0 (Aj _) S;rw [Ap] at I;refine defE mixed fi72 ?_;refine eQ [0] (z8x b n) ?_;refine gQ ?_;refine eQ [0] (hs) ?_;refine eQ [6] (q8f c 0) ?_;cases F:needP 0 (rdP 48 decOct) c with
 |error e=>rw [q1f F] at i;subst i;rw [F] at I;have u:PE Tryz.prog 136 [.ptr 0 0,rI (0:Nat),.fn 66 [] []] [rdr c 0] (.pan (errV e)) [.dead]:=I;simp only [closeP,chkP];refine effP [6] (u) ?_;refine ⟨by simp,q6r b n _ e _ _ _ _ _ _ _ [_] _ ?_⟩;with_reducible refine sxE ?_;trivial
 |ok x=>
  obtain ⟨l,k⟩:=x;rw [q7x F] at i;have hk:=q0X _ _ _ F;rw [F] at I;have u:PE Tryz.prog 136 [.ptr 0 0,rI (0:Nat),.fn 66 [] []] [rdr c 0] (.ret (.ptr 2 0)) [rdr c (0+k),.dead,rdr l 0]:=I;rw [Ag] at u;refine eQ [6] (u) ?_;have U:l.length<=1099511627776:=(q5B (z9t (Q:=λv:List UInt8=>v.length<=1099511627776) λc v S hd=>by unfold decOct at hd;cases hd;exact S)) c l k S F;generalize W:listP strP l.length l=X;refine q3D 2 0 .str rfl rfl rfl ?_;with_reducible refine sxE ?_
  refine q0m (ι:=Nat×List ByteArray×List SObj) (λs=>[]) (λs=>[rdr b (n+N),.cells 82 [.ptr 0 0],.cells 24 [.bld (s.2.2.length+9) .str s.2.1.length,rS ⟨#[]⟩],.cells 33 [rI 0],rdr b n,.cells 82 [.ptr 4 0],rdr c k,.dead,rdr l s.1]++s.2.2++ [.row .str s.2.1]) (λs=>l.length-s.1) (λs=>s.2.1.length<=s.1/\s.1<=l.length/\(∀x∈s.2.1,x.size<=1099511627776)/\X=tailP s.2.1 s.1 (listP strP (l.length-s.2.1.length) (l.drop s.1))) (0,[],[]) ⟨Ad _,Aj _,by simp,?_⟩ rfl ?_ ?_
  . rw [Ap,BH,CC,z5Q];exact W.symm
  . with_reducible refine sxE ?_;trivial
  rintro ⟨m,xs,G⟩ ⟨i1,V,i4,L⟩;dsimp only at i1 V L i4;have B:=q3d l m V;refine aQ ?_;refine q0j [8] B rfl (by decide) ⟨rfl,rfl,trivial⟩ rfl rfl ?_;simp only [afterO,Out.ren,SV.ren,mgA,sig,SObj.ren,SV.renL,Ay,Ar,List.append_assoc,Bi,Bc,List.set,List.map,Ac];refine uQ 5 _ ?_;with_reducible refine sxaE ?_
  refine ⟨λab=> ?_,λab=> ?_⟩
  . have O:m<l.length:=by omega
    refine z4y [2] mixed ?_;refine aQ ?_;cases o:strP (l.drop m) with
    |error e=>
     have hr:=z9f l m V U o;have j:=L.trans (q3X O (by omega) o);rw [j4c (W.trans j)] at i;subst i;simp only [shiftP,closeP,chkP];refine q0t [8] hr rfl (by decide) ⟨rfl,rfl,trivial⟩ rfl rfl ?_ ?_
     . simp (maxSteps:=3000000) only [mgA,sig,q0y,q0E,List.append_assoc,getA,getA0,setA,setA0,Ab,Ax,go_sem,↓zA,↓reduceIte,↓reduceDIte] <;>try simp only [zB]
     refine rnE ?_;refine aQ ?_;refine q0t [] (q6S (.string ⟨#[]⟩) e (q7f o)) rfl (by decide) trivial rfl rfl ?_ ?_
     . simp (maxSteps:=3000000) only [mgA,sig,q0y,q0E,List.append_assoc,getA,getA0,setA,setA0,Ab,Ax,go_sem,↓zA,↓reduceIte,↓reduceDIte] <;>try simp only [zB]
     refine rnE ?_;refine z5x ?_;with_reducible refine sxaE ?_
     refine ⟨by simp,?_⟩;have d:=λK A=>q6r b n (n+N) e 82 24 33 82 (.bld (G.length+9) .str xs.length) (rS ⟨#[]⟩) (.int .i64 0) ([rdr c k,.dead,rdr l m]++G++ [.row .str xs]) K A;simp only [Ay,Ar,List.append_assoc] at d;refine d _ ?_;with_reducible refine sxaE ?_;trivial
    |ok y=>
     obtain ⟨v,q⟩:=y;have hr:=z7X l m V U o;have J:=j4S o;have ae:=q7K (q6W o).1;have hq:2<=q:=by rw [(q6W o).2.2];exact ae
     have ac:=z8m (l.drop m) v q (by rw [Ah];omega) o;rw [Ah] at J;have ad:=L.trans (q9E O (by omega) o);refine q0t [8] hr rfl (by decide) ⟨rfl,rfl,trivial⟩ rfl rfl ?_ ?_
     . simp (maxSteps:=3000000) only [mgA,sig,q0y,q0E,List.append_assoc,getA,getA0,setA,setA0,Ab,Ax,go_sem,↓zA,↓reduceIte,↓reduceDIte] <;>try simp only [zB]
     refine rnE ?_;refine aQ ?_;refine q0d (q7S _) ?_;refine aQ ?_;refine ⟨by show v.size<=_;omega,⟨by omega,by omega⟩,j0N ?_⟩;refine aQ ?_;refine ⟨(m+q,xs++ [v],G++ [.dead,.row .str [v]]),⟨by simp;omega,by dsimp only;omega,λx w=> ?_,?_⟩,by dsimp only;omega,?_,?_⟩
     . rcases Cv.1 w with w|w
       . exact i4 x w
       rw [List.mem_singleton] at w;subst w;exact ac
     . dsimp only;rw [ad,Ab,List.length_singleton,Nat.sub_sub]
     . simp
     with_reducible refine sxaE ?_;trivial
  have j:=L.trans (z2X (by omega));rw [j3X (W.trans j),j4x,AF] at i;clear W j L;refine z6E (ty:=.str) (xs:=xs) [rdr b (n+N),.cells 82 [.ptr 0 0],.cells 24 [.bld (G.length+9) .str xs.length,rS ⟨#[]⟩],.cells 33 [rI 0],rdr b n,.cells 82 [.ptr 4 0],rdr c k,.dead,rdr l m] [rdr b (n+N),.cells 82 [.ptr 0 0],.cells 24 [.bld 9 .str xs.length,rS ⟨#[]⟩],.cells 33 [rI 0],rdr b n,.cells 82 [.ptr 4 0],rdr c k,.dead,rdr l m] G rfl (by simp) (by simp) ?_ (by rfl) ?_ ?_ ?_
  . simp [SObj.ren,SV.ren,SV.renL,shift,A4]
  . rfl
  . with_reducible refine sxE ?_;trivial
  with_reducible refine sxE ?_
  have hxs:xs.length<=1099511627776:=by omega
  refine q1j 9 rfl rfl (by omega) ?_ ?_ ?_
  . with_reducible refine sxE ?_
    exact Ad _
  . with_reducible refine sxE ?_;trivial
  with_reducible refine sxE ?_
  rw [Aa (Ad _)];have R:=j9V 1 (by omega) c k hk S;cases D:needP 1 strP (c.drop k) with
  |error e=>rw [q1f D] at i;subst i;have hf1':=q2A R D;simp only [shiftP,closeP,chkP];refine gQ ?_;refine effP [6] (hf1') ?_;refine ⟨by simp,?_⟩;have d:=λK A=>q6r b n (n+N) e 82 24 33 82 (.isl .str xs) (rS ⟨#[]⟩) (.int .i64 0) [.dead,.dead,rdr l m,.dead] K A;simp only [Ay,Ar,List.append_assoc] at d;refine d _ ?_;with_reducible refine sxE ?_;trivial
  |ok y=>
   obtain ⟨t,q⟩:=y;rw [q1R D] at i;have hf1':=q1d R D;have aa:=q2U q0X hk D;have hts:=q5B z8m (c.drop k) t q (by rw [Ah];omega) D;have Z:=q3d c (k+q) aa;simp only [shiftP,retP,closeP] at i;refine gQ ?_;refine eQ [6] (hf1') ?_;refine eQ [6] (Z) ?_;refine ⟨λhle=>q0a (q7C (xs,t) ⟨⟨by show xs.length<=_;omega,λx w=>by have:=i4 x w;show x.size<=_;omega⟩,by show t.size<=_;omega⟩) ?_,λhgt=>⟨by simp,?_⟩⟩
   . rw [if_neg (by omega)] at i;simp only [chkP] at i;cases hv:vPrin (xs,t) with
     |true=>rw [if_pos hv] at i;subst i;refine gQ ?_;refine j5U _ _ λG=> ?_;with_reducible refine sxE ?_;trivial
     |false=>rw [if_neg (by rw [hv];decide)] at i;subst i;refine gQ ?_;refine ⟨by simp,?_⟩;have d:=λK A=>q6r b n (n+N) 6 82 24 33 82 (.isl .str xs) (rS t) (.int .i64 0) [rdr c (k+q),.dead,rdr l m,.dead] K A;simp only [Ay,Ar,List.append_assoc] at d;refine d _ ?_;with_reducible refine sxE ?_;trivial
   rw [if_pos (by omega)] at i;simp only [chkP] at i;subst i;have d:=λK A=>q6r b n (n+N) 6 82 24 33 82 (.isl .str xs) (rS t) (.int .i64 0) [rdr c (k+q),.dead,rdr l m,.dead] K A;simp only [Ay,Ar,List.append_assoc] at d;refine d _ ?_;with_reducible refine sxE ?_;trivial
def j1w{Q':α->Prop}(h:OkP p Q)(hq:∀v,Q v->Q' v):OkP p Q':=λr v m hr hx=>hq v (h r v m hr hx)
theorem j5J{p:PR Prin}{Q:Prin->Prop}(i:∀v,vPrin v=true->Q v):OkP (λr=>chkP vPrin (p r)) Q:=λr v m _ d=>by
 have d:chkP vPrin (p r)= .ok (v,m):=d;cases h:p r with
 |error e=>rw [h] at d;cases d
 |ok y=>
  obtain ⟨u,k⟩:=y;rw [h] at d;simp only [chkP] at d;split at d
  . cases d;exact i _ (by assumption)
  cases d
def j7E{p:Prin}(h:vPrin p=true):PrinT.ok p:=by obtain ⟨h1,d,h3⟩:=q5n h;exact ⟨⟨by omega,λx i=>by have:=d x i;show x.size<=_;omega⟩,by show p.2.size<=_;omega⟩
def j2L:OkP nameP PrinT.ok:=j5J λ_ h=>j7E h
def z4G:OkP octP (Ty.slice .u8).ok:=z9t λc v hc d=>by unfold decOct at d;cases d;exact ⟨by show c.length<=_;omega,λ_ _=>trivial⟩
def k0Z{t:Ty}{p:PR t.den}(n:Nat)(hn:n<=1000)(h:OkP p t.ok):OkP (inP 48 (listP p n)) (Ty.slice t).ok:=z3d (j1w (z4X h n) λv d=>⟨by have:=d.1;omega,d.2⟩)
def j7D:OkP keyP KeyT.ok:=z3d (q5T (Q1:=λ_=>True) z1x λ_ _=>q5T (Q1:=λ_=>True) z1x λ_ _=>q5T (q5B z4G) λ_ hc=>z9J ⟨trivial,trivial,hc⟩)
def q7L{α:Type}{p:PR α}(j:ErrP p):∀n,ErrP (listP p n)
 |0,r,e,h=>by
  simp only [listP] at h;split at h<;>cases h
  decide
 |n+1,r,e,h=>by
  simp only [listP] at h;split at h
  . cases h
  cases d:p r with
  |error e1=>rw [d] at h;cases h;exact j r _ d
  |ok y=>
   obtain ⟨u,k⟩:=y;rw [d] at h;simp only at h;cases i:listP p n (r.drop k) with
   |error e2=>rw [i] at h;cases h;exact q7L j n _ _ i
   |ok z=>obtain ⟨w,l⟩:=z;rw [i] at h;cases h
def j3e:ErrP nameP:=λr e h=>by
 have j:ErrP (inP 48 nameIn):=q8Y (q2y (q3a q4m) λl=>q2y (λr' e' i=>by
  unfold strsP atP at i;cases d:listP strP l.length l with
  |error e1=>rw [d] at i;cases i;exact q7L q4m _ _ _ d
  |ok y=>obtain ⟨u,k⟩:=y;rw [d] at i;cases i) λ_=>q2y (q3a q4m) λ_=>z0i)
 unfold nameP at h;cases d:inP 48 nameIn r with
 |error e1=>rw [d] at h;cases h;exact j r _ d
 |ok y=>
  obtain ⟨u,k⟩:=y;rw [d] at h;simp only [chkP] at h;split at h<;>cases h
  decide
def z6I:FitsP nameP:=λr v m h=>by
 unfold nameP at h;cases d:inP 48 nameIn r with
 |error e1=>rw [d] at h;cases h
 |ok y=>
  obtain ⟨u,k⟩:=y;rw [d] at h;simp only [chkP] at h;split at h
  . cases h;exact q5M r _ _ d
  cases h
def j9W(b:List UInt8)(n:Nat)(d:n<=b.length)(i:b.length<=1099511627776):
 EffR Tryz.prog 72 [.ptr 0 0] b n (λp:Prin=>.agg (PrinT.cells p)) zPrin (nameP (b.drop n)):=by
 by_cases h:takeE 48 (b.drop n)=0
 . exact j8c b n d i h
 exact j8x b n d i h
def appB(n:Nat):UInt8:=byteOf (96+n)
def j5g(hm:m<=30):IntKind.u8.wrap (IntKind.i64.wrap (96+ (m:Int)))=((appB m).toNat:Int):=by rw [wrapi (by omega)];exact (q0U _).symm
theorem j7Q(m:Nat)(i:m<=30)(b:List UInt8)(n:Nat)(w:n<=b.length)(u:b.length<=1099511627776)(o:takeE (appB m) (b.drop n)=0):
 PE Tryz.prog 65 [.ptr 0 0,rI m] [rdr b n] (.ret (.tup [.ptr 1 0,rI 0])) [rdr b (n+takeN (b.drop n)),rdr (takeC (b.drop n)) 0]:=by
 have h:=z0C (appB m) b n w u o;have j:=j5g i;generalize takeC (b.drop n)=c at*;generalize takeN (b.drop n)=k at*;refine q0b (by simp) ?_;refine rQ fi65 ?_;refine ⟨λ_=>⟨λd=>absurd d (by omega),λ_=> ?_⟩,λhneg=>by exfalso;omega⟩;rw [j];refine eQ [0] (h) ?_;trivial
theorem j6f(m:Nat)(i:m<=30)(b:List UInt8)(n:Nat)(w:n<=b.length)(u:b.length<=1099511627776)(o:takeE (appB m) (b.drop n)≠0):
 PE Tryz.prog 65 [.ptr 0 0,rI m] [rdr b n] (.ret (.tup [.raw (.pointer none),rI (takeE (appB m) (b.drop n))])) [rdr b n]:=by
 have h:=z0U (appB m) b n w u o;have j:=j5g i;generalize takeE (appB m) (b.drop n)=e at*;refine q0b (by simp) ?_;refine rQ fi65 ?_;refine ⟨λ_=>⟨λd=>absurd d (by omega),λ_=> ?_⟩,λhneg=>by exfalso;omega⟩;rw [j];refine eQ [0] (h) ?_;trivial
def cstP(v:Int):PR Unit:=λr=>match intP r with
 |.ok (w,k)=>if w=v then .ok ((),k) else .error 6
 |.error e=>.error e
def datIn:PR Pre:=bindP (needP 0 intP) λa=>bindP (needP 1 octP) λc=>retP ((a,c):Pre)
def datP:PR Pre:=inP 48 datIn
def dataP:PR (List Pre):=inP 48 (listP datP 16)
def j5A:ErrP datP:=q8Y (q2y (q3a q4m) λ_=>q2y (q3a q4m) λ_=>z0i)
def j2j:ErrP dataP:=q8Y (q7L j5A 16)
theorem j7d(b:List UInt8)(n:Nat)(hn:n<=b.length)(J:b.length<=1099511627776):
 EffZ Tryz.prog 152 [.ptr 0 0] b n (posX b n) (λl:List Pre=>.isl PreT l) (dataP (b.drop n)):=by
 unfold dataP;by_cases h:takeE 48 (b.drop n)=0
 . have O:=q6p b n hn J h;have V:=q1K (n:=n) J;rw [q3o h,j5j h];generalize takeC (b.drop n)=c at*;generalize takeN (b.drop n)=N at*;generalize hX:listP datP 16 c=X;refine q7G ?_;refine rQ fi152 ?_;refine eQ [0] (O) ?_;refine eQ [1] (q8h c 0) ?_;refine q8K 2 PreT rfl rfl ?_;with_reducible refine sxE ?_
   refine q0m (ι:=Nat×List Pre×List SObj) (λs=>[(2,.bld (s.2.2.length+2) PreT s.2.1.length)]) (λs=>[rdr b (n+N),rdr c s.1]++s.2.2++ [.row PreT s.2.1]) (λs=>20-s.2.1.length) (λs=>s.2.1.length<=16/\s.1<=c.length/\X=tailP s.2.1 s.1 (listP datP (16-s.2.1.length) (c.drop s.1))) (0,[],[]) ⟨Aj _,Aj _,?_⟩ rfl ?_ ?_
   . rw [Ap,z5Q];exact hX.symm
   . with_reducible refine sxE ?_;trivial
   rintro ⟨k,xs,G⟩ ⟨i1,I,o⟩;dsimp only at i1 I o;refine z4u (ty:=PreT) (xs:=xs) 2 xs.length [rdr b (n+N),rdr c k] [rdr b (n+N),rdr c k] G rfl (by simp) (by simp) ?_ (by rfl) ?_ ?_ ?_
   . simp [SObj.ren,SV.ren,SV.renL]
   . rfl
   . with_reducible refine sxE ?_
     exact congrArg (λq=>SV.bld q PreT xs.length) (A4 _ _)
   have w:=q3d c k I;refine gQ ?_;refine eQ [1] (w) ?_;refine ⟨λL=>⟨λK=> ?_,λK=> ?_⟩,λL=> ?_⟩
   . have h0:16-xs.length=0:=by omega
     rw [h0] at o;rw [o.trans (z7g (by omega))];simp only [closeP];with_reducible refine sxE ?_
     rfl
   . have j:k<c.length:=by omega
     have i:0<16-xs.length:=by omega
     by_cases A:takeE 48 (c.drop k)=0
     . have u:=q6p c k I V A;have W:=q1K (n:=k) V;have d:datP (c.drop k)=closeP (takeC (c.drop k)).length (takeN (c.drop k)) (datIn (takeC (c.drop k))):=q3o A;have hM:=q2C A;rw [Ah] at hM;generalize takeC (c.drop k)=s at*;generalize takeN (c.drop k)=M at*;unfold datIn at d;refine eQ [1] (u) ?_;refine eQ [3] (q8h s 0) ?_;have U:=z8X 0 (by omega) s 0 (Aj _) W;rw [Ap] at U;cases D:needP 0 intP s with
       |error e=>rw [q1f D] at d;rw [o.trans (q3X j i d)];have e1':=q2A U D;simp only [closeP];refine effP [3] (e1') ?_;trivial
       |ok y=>
        obtain ⟨Z,F⟩:=y;rw [q7x D] at d;have e1':=q1d U D;have Y:=q0X _ _ _ D;rw [Ag] at e1';refine eQ [3] (e1') ?_;have e2:=j5p 1 (by omega) s _ Y W;cases B:needP 1 octP (s.drop F) with
        |error e=>rw [q1f B] at d;rw [o.trans (q3X j i d)];have e2':=q2A e2 B;simp only [closeP];refine effP [3] (e2') ?_;trivial
        |ok y=>
         obtain ⟨v2,S⟩:=y;rw [q1R B] at d;have e2':=q1d e2 B;have f2:=q2U q0X Y B;simp only [shiftP,retP,closeP,AF] at d;refine eQ [3] (e2') ?_;by_cases R:F+S<s.length
         . rw [if_pos R] at d;rw [o.trans (q3X j i d)];simp only [closeP];refine effP [3] (z5L s _ R) ?_;rfl
         rw [if_neg R] at d;have hX':=o.trans (q9E j i d);refine eQ [3] (z6p s (F+S) (by omega)) ?_;refine ⟨⟨by omega,by omega⟩,(k+M,xs++ [(Z,v2)],[.dead,rdr s (F+S),.row PreT [(Z,v2)]]),⟨by simp;omega,by dsimp only;omega,?_⟩,by simp;omega,rfl,?_⟩
         . dsimp only;rw [hX',Ab,List.length_singleton,Nat.sub_sub]
         with_reducible refine sxE ?_;trivial
     have u:=q6L c k I V A;have d:datP (c.drop k)= .error (takeE 48 (c.drop k)):=q3W A;rw [o.trans (q3X j i d)];generalize takeE 48 (c.drop k)=e at*;simp only [closeP];refine eQ [1] (u) ?_;refine effP [] (q4k e A) ?_;trivial
   rw [o.trans (z2X (by omega))];simp only [closeP];rw [if_neg (by omega)];with_reducible refine sxE ?_
   exact ⟨⟨Ad _,by omega⟩,Aa (Ad _)⟩
 have O:=q6L b n hn J h;rw [q3W h,j4X h];generalize takeE 48 (b.drop n)=e at*;refine q7G ?_;refine rQ fi152 ?_;refine eQ [0] (O) ?_;refine effP [] (q4k e h) ?_;trivial
def j6e(b:List UInt8)(n m e:Nat)(o d i j:TypeId)(y:Value)(K:List SObj->Prop)
 (h:∀G,K ([rdr b n,.cells o [.ptr 0 0],.cells d [.raw (.slice none 0 0)],.cells i [rI e],.cells j [rI n]]++G)):
 DCall Tryz.prog 189 [.ptr 4 0,.ptr 1 0,.ptr 2 0,.ptr 3 0] (some (errV e)) [rdr b m,.cells o [.ptr 0 0],.cells d [.raw (.slice none 0 0)],.cells i [.raw y],.cells j [rI n]] K:=by
 refine recE mixed fi189 ?_;exact h _
def j8R(H:List SObj)(K:List SObj->Prop)(h:∀G,K (H++G)):DCall Tryz.prog 189 [.ptr 4 0,.ptr 1 0,.ptr 2 0,.ptr 3 0] none H K:=by refine recE mixed fi189 ?_;simpa using h []
abbrev zDat:SV:=.isl PreT []
theorem j8b(b:List UInt8)(n:Nat)(h:n<=b.length)(i:b.length<=1099511627776):
 EffR Tryz.prog 151 [.ptr 0 0,.fn 152 [] []] b n (λl:List Pre=>.isl PreT l) zDat (dataP (b.drop n)):=by
 have d:=j7d b n h i;generalize dataP (b.drop n)=X at*;cases X with
 |error e=>have hk':=z3o d rfl;refine q0b (by simp) ?_;refine defE mixed fi151 ?_;refine gQ ?_;refine effP [0] (hk') ?_;refine ⟨by simp,j6e b n _ e _ _ _ _ _ _ λG=> ?_⟩;with_reducible refine sxE ?_;trivial
 |ok x=>obtain ⟨v,k⟩:=x;have hk':=z4C d rfl;refine q0b (by simp) ?_;refine defE mixed fi151 ?_;refine gQ ?_;refine eQ [0] (hk') ?_;refine j8R _ _ λG=> ?_;with_reducible refine sxE ?_;trivial
theorem j3x(b:List UInt8)(n:Nat)(h:n<=b.length)(i:b.length<=1099511627776):
 EffR Tryz.prog 79 [.ptr 0 0] b n (λl:List Pre=>.isl PreT l) zDat (dataP (b.drop n)):=by
 have d:=j8b b n h i;generalize dataP (b.drop n)=X at*;cases X with
 |error e=>have hk':=q4f d rfl;refine q0b (by simp) ?_;refine rQ fi79 ?_;refine eQ [0] (hk') ?_;trivial
 |ok x=>obtain ⟨v,k⟩:=x;have hk':=q4j d rfl;refine q0b (by simp) ?_;refine rQ fi79 ?_;refine eQ [0] (hk') ?_;trivial
@[go_sem] abbrev mU(o:Int):SV:=.raw (.int .u32 o)
def EffY(P:Program)(f:FuncId)(args:List SV)(b:List UInt8)(n:Nat)(res:α->SV):Except Nat (α×Nat)->Prop
 |.ok (v,k)=>PE P f args [rdr b n] (.ret (res v)) [rdr b (n+k)]
 |.error _=>∃e:Nat,PE P f args [rdr b n] (.pan (errV e)) [.dead]
variable {f:FuncId}
def q8T(h:EffY P f args b n res x)(d:x= .ok (v,k)):PE P f args [rdr b n] (.ret (res v)) [rdr b (n+k)]:=by rw [d] at h;exact h
def q8H(h:EffY P f args b n res x)(d:x= .error e):∃e:Nat,PE P f args [rdr b n] (.pan (errV e)) [.dead]:=by rw [d] at h;exact h
set_option synthInstance.maxSize 2000
set_option synthInstance.maxHeartbeats 400000
def z0f(l d:List UInt8):PC Tryz.prog 101 [.isl .u8 l,.isl .u8 d] (rB (decide (l=d))):=by refine q0s rfl rfl ?_;refine rQ fi101 ?_;simp only [q3B]
theorem z1F(l o:List ByteArray)(B:(Ty.slice Ty.str).ok l):PC Tryz.prog 170 [.isl .str l,.isl .str o] (rB (decide (l=o))):=by
 have hlen:=B.1;have key:=sameN l o (ByteArray.empty);refine q0s rfl rfl ?_;refine rQ fi170 ?_<;>try with_reducible exact True.intro
 repeat' (first
  | (with_reducible refine And.intro ?_ ?_)
  | (with_reducible intro _))
 all_goals (skip)
 . grind
 refine q1p (λi=>[(13,.raw (.int .i64 ((i:Nat):Int)))]) (l.length) (λj=>(eqAt l o ByteArray.empty) j=true) (by first|decide|simp) (λi=>rfl) ?_ λi hi d=> ?_
 . (with_reducible refine sxE ?_<;>try exact True.intro)
   all_goals (try rfl)
 have w:=wsx i (by omega);refine gQ ?_;have y:i< (l.length)->(eqAt l o ByteArray.empty) i=false->allN (l.length) (eqAt l o ByteArray.empty)=false:=λu A=>q0u u A;have fin:¬i< (l.length)->allN (l.length) (eqAt l o ByteArray.empty)=true:=λh=>q0v λj hj=>d j (by omega);try dsimp only at y fin d
 repeat' (first
  | (refine q0a (skip) ?_;refine uQ 600 _ ?_;simp (maxSteps:=3000000) only [go_sem,↓zA,↓reduceIte,↓reduceDIte] <;>try simp only [zB])
  | (refine q0d (skip) ?_;refine uQ 600 _ ?_;simp (maxSteps:=3000000) only [go_sem,↓zA,↓reduceIte,↓reduceDIte] <;>try simp only [zB])
  | (refine q0i (skip) ?_;refine uQ 600 _ ?_;simp (maxSteps:=3000000) only [go_sem,↓zA,↓reduceIte,↓reduceDIte] <;>try simp only [zB])
  | (with_reducible refine And.intro ?_ ?_)
  | (with_reducible intro _))
 all_goals (first| (with_reducible (refine (id ?_:SoundI _ _ _))) | ((try simp only [Ty.dflt] at*);first|omega| (refine ⟨by omega,q1o d (by grind [eqAt]),⟨_,by first|rfl|exact List.append_assoc _ _ _| (simp only [List.append_assoc,Ay,Ar];rfl)⟩,?_⟩;simp only [w,go_sem,↓zA,↓reduceIte,↓reduceDIte] <;> (first|rfl| (grind [eqAt]))) | (refine ⟨_,rfl⟩) | (refine ⟨_,List.append_assoc _ _ _⟩) | (grind [eqAt])))
theorem j1N(p j:Prin)(i:PrinT.ok p):PC Tryz.prog 94 [.agg (PrinT.cells p),.agg (PrinT.cells j)] (rB (decide (p=j))):=by
 obtain ⟨a,r⟩:=p;obtain ⟨d,r'⟩:=j;have o:decide ((a,r)=(d,r'))=(decide (r=r') && decide (a=d)):=by rw [BY];simp only [decide_eq_true_eq,Ai,Prod.mk.injEq];exact ⟨λh=>⟨h.2,h.1⟩,λh=>⟨h.2,h.1⟩⟩
 rw [show rB (decide ((a,r)=(d,r')))=rB (decide (r=r') && decide (a=d)) from by rw [o]];clear o;refine q0s rfl rfl ?_;refine rQ fi94 ?_<;>try with_reducible exact True.intro
 repeat' (first
  | (refine q0a (z1F _ _ i.1) ?_;refine uQ 600 _ ?_;simp (maxSteps:=3000000) only [go_sem,↓zA,↓reduceIte,↓reduceDIte] <;>try simp only [zB])
  | (refine q0d (z1F _ _ i.1) ?_;refine uQ 600 _ ?_;simp (maxSteps:=3000000) only [go_sem,↓zA,↓reduceIte,↓reduceDIte] <;>try simp only [zB])
  | (refine q0i (z1F _ _ i.1) ?_;refine uQ 600 _ ?_;simp (maxSteps:=3000000) only [go_sem,↓zA,↓reduceIte,↓reduceDIte] <;>try simp only [zB])
  | (with_reducible refine And.intro ?_ ?_)
  | (with_reducible intro _))
 all_goals (skip)
 all_goals grind
theorem j3W(k k':Key):PC Tryz.prog 102 [.agg (KeyT.cells k),.agg (KeyT.cells k')] (rB (decide (k=k'))):=by
 obtain ⟨a,b,c⟩:=k;obtain ⟨d,i,h⟩:=k';have j:decide ((a,b,c)=(d,i,h))=(decide (a=d) && (decide (b=i) && decide (c=h))):=by rw [BY];simp only [decide_eq_true_eq,Ai,Prod.mk.injEq]
 rw [show rB (decide ((a,b,c)=(d,i,h)))=rB (decide (a=d) && (decide (b=i) && decide (c=h))) from by rw [j]];clear j;refine q0s rfl rfl ?_;refine rQ fi102 ?_<;>try with_reducible exact True.intro
 repeat' (first
  | (refine q0a (z0f _ _) ?_;refine uQ 600 _ ?_;simp (maxSteps:=3000000) only [go_sem,↓zA,↓reduceIte,↓reduceDIte] <;>try simp only [zB])
  | (refine q0d (z0f _ _) ?_;refine uQ 600 _ ?_;simp (maxSteps:=3000000) only [go_sem,↓zA,↓reduceIte,↓reduceDIte] <;>try simp only [zB])
  | (refine q0i (z0f _ _) ?_;refine uQ 600 _ ?_;simp (maxSteps:=3000000) only [go_sem,↓zA,↓reduceIte,↓reduceDIte] <;>try simp only [zB])
  | (with_reducible refine And.intro ?_ ?_)
  | (with_reducible intro _))
 all_goals (skip)
 all_goals grind
theorem q8m(v d h:Int):PC Tryz.prog 174 [rI v,rI d,rI h] (rB (mIn d h v)):=by refine q0s rfl rfl ?_;refine rQ fi174 ?_;grind [mIn]
theorem z1Q(v:Int):PC Tryz.prog 172 [rI v] (rB (vTime v)):=by refine q0s rfl rfl ?_;refine rQ fi172 ?_;refine cQ (q8m _ _ _) ?_;rfl
def k0M(l:List Bool)(d:l.length<=1125899906842624):PC Tryz.prog 171 [.isl .bool l] (rB (l.all id)):=by refine q0s rfl rfl ?_;refine rQ fi171 ?_;refine cQ (q7Q l d) ?_;simp
def j5O(v:Int):PC Tryz.prog 173 [rI v] (rB (mIn 0 86400 v)):=by refine q0s rfl rfl ?_;refine rQ fi173 ?_;refine cQ (q8m _ _ _) ?_;trivial
def witB(a b s:Int):Bool:=vTime a&& (vTime b&& (mIn 0 86400 s&& mIn (-s) s (a-b)))
theorem j9w(a b s:Int):PC Tryz.prog 95 [rI a,rI b,rI s] (rB (witB a b s)):=by
 have j:=k0M [vTime a,vTime b,mIn 0 86400 s] (by simp);have i:witB a b s=(([vTime a,vTime b,mIn 0 86400 s].all id) && mIn (-s) s (a-b)):=by simp [witB,Bool.and_assoc]
 have o:[vTime a,vTime b,mIn 0 86400 s].all id=true->IntKind.i64.wrap (a-b)=a-b/\IntKind.i64.wrap (-s)= -s:=λh=>by simp only [BK,CA,id,Cq,Ai,vTime,mIn,decide_eq_true_eq] at h;exact ⟨wrapi (by omega),wrapi (by omega)⟩
 rw [i];refine q0s rfl rfl ?_;refine rQ fi95 ?_;refine cQ (z1Q _) ?_;refine cQ (z1Q _) ?_;refine cQ (j5O _) ?_;refine q0x 0 ?_;with_reducible refine sxE ?_
 refine q0a j ?_;generalize [vTime a,vTime b,mIn 0 86400 s].all id=q at*;cases q with
 |false=>refine gQ ?_;trivial
 |true=>obtain ⟨u,d⟩:=o rfl;rw [show -s=0-s by omega] at d⊢;refine gy2 u d ?_;refine cQ (q8m _ _ _) ?_;trivial
set_option maxHeartbeats 40000000
abbrev AutT:Ty:=.prod PrinT (.prod (.slice .u8) (.prod I64 (.prod I64 (.prod KeyT (.prod I64 (.slice PreT))))))
abbrev Aut:=AutT.den
theorem z2f(v:Int):PC Tryz.prog 44 [rI v] (rB (vTime v)):=by refine q0s rfl rfl ?_;refine rQ fi44 ?_;grind [vTime,mIn]
def nKey:Key:=((0:Int),(0:Int),[])
def j8j(k:Key):PC Tryz.prog 45 [.agg (KeyT.cells k)] (rB (decide (k=nKey))):=by
 have h:=j3W k nKey;refine q0s rfl rfl ?_;refine rQ fi45 ?_;refine q0a (h.arg ?_) ?_
 . simp (maxSteps:=3000000) only [nKey,go_sem,↓zA,↓reduceIte,↓reduceDIte] <;>try simp only [zB]
 refine gQ ?_;trivial
def datAt(l:List Pre)(j:Nat):Bool:=mIn 0 2147483647 (l.getD j PreT.dflt).1&& decide (((l.getD j PreT.dflt).2.length:Int)<=4096)
def vDat(l:List Pre):Bool:=allN l.length (datAt l) && decide ((l.length:Int)<=16)
theorem j2T(l:List Pre)(G:(Ty.slice PreT).ok l):PC Tryz.prog 47 [.isl PreT l] (rB (vDat l)):=by
 have hl:=G.1;refine q0s rfl rfl ?_;refine rQ fi47 ?_;refine q1p (λi=>[(7,.raw (.int .i64 ((i:Nat):Int)))]) (l.length) (λj=>(datAt l) j=true) (by first|decide|simp) (λi=>rfl) ?_ λi hi o=> ?_
 . (with_reducible refine sxE ?_<;>try exact True.intro)
   all_goals (try rfl)
 have B:=wsx i (by omega);refine gQ ?_;have w:i< (l.length)->(datAt l) i=false->allN (l.length) (datAt l)=false:=λd u=>q0u d u;have fin:¬i< (l.length)->allN (l.length) (datAt l)=true:=λh=>q0v λj hj=>o j (by omega);try dsimp only at w fin o
 have y:datAt l i=(mIn 0 2147483647 (l.getD i PreT.dflt).1&& decide (((l.getD i PreT.dflt).2.length:Int)<=4096)):=rfl;have u:i<l.length->datAt l i=false->false=vDat l:=λd h=>by unfold vDat;rw [w d h];rfl
 refine ⟨λd=>⟨⟨by omega,d⟩,⟨λF=>⟨λD=>⟨λI=> ?_,λI=>⟨d,q1o o ?_,⟨[_],rfl⟩,?_⟩⟩,λD=> ?_⟩,λF=> ?_⟩⟩,λA=> ?_⟩
 . exact u d (by rw [y,decide_eq_false (by omega),CJ])
 . rw [y,decide_eq_true (by omega),Cq];unfold mIn;rw [decide_eq_true (by omega),decide_eq_true (by omega)];rfl
 . with_reducible refine sx1 B ?_;trivial
 . exact u d (by rw [y];unfold mIn;rw [decide_eq_false (CY.2 D)];simp)
 . exact u d (by rw [y];unfold mIn;rw [decide_eq_false (CY.2 F)];simp)
 unfold vDat;rw [fin A];rfl
def vSub(k:Key):Bool:=decide (k=nKey) || (vKey k&& decide (k.2.1=0))
def vAut(a:Aut):Bool:=vPrin a.1&& (decide ((a.2.1.length:Int)<=64) && (vTime a.2.2.1&& (mIn 0 999999 a.2.2.2.1&& (vSub a.2.2.2.2.1&& (mIn 0 4294967295 a.2.2.2.2.2.1&& vDat a.2.2.2.2.2.2)))))
theorem q7p(a:Aut)(o:AutT.ok a):PC Tryz.prog 11 [.agg (AutT.cells a)] (rB (vAut a)):=by
 obtain ⟨c,s,t,m,k,q,d⟩:=a;have c1:=q7C c o.1;have c2:=z2f t;have c3:=j8j k;have i:=j4D k;have h:=j2T d o.2.2.2.2.2.2;have j:vSub k=(decide (k=nKey) || (vKey k&& decide (k.2.1=0))):=rfl;unfold vAut;dsimp only;rw [j];clear j;generalize vPrin c=x1 at*;generalize vTime t=x2 at*;generalize decide (k=nKey)=x3 at*;generalize vKey k=x4 at*;generalize vDat d=x5 at*;refine q0s rfl rfl ?_;refine rQ fi11 ?_<;>try with_reducible exact True.intro
 repeat' (first
  | (refine q0a (c1) ?_;refine uQ 600 _ ?_;simp (maxSteps:=3000000) only [go_sem,↓zA,↓reduceIte,↓reduceDIte] <;>try simp only [zB])
  | (refine q0d (c1) ?_;refine uQ 600 _ ?_;simp (maxSteps:=3000000) only [go_sem,↓zA,↓reduceIte,↓reduceDIte] <;>try simp only [zB])
  | (refine q0i (c1) ?_;refine uQ 600 _ ?_;simp (maxSteps:=3000000) only [go_sem,↓zA,↓reduceIte,↓reduceDIte] <;>try simp only [zB])
  | (refine q0a (c2) ?_;refine uQ 600 _ ?_;simp (maxSteps:=3000000) only [go_sem,↓zA,↓reduceIte,↓reduceDIte] <;>try simp only [zB])
  | (refine q0d (c2) ?_;refine uQ 600 _ ?_;simp (maxSteps:=3000000) only [go_sem,↓zA,↓reduceIte,↓reduceDIte] <;>try simp only [zB])
  | (refine q0i (c2) ?_;refine uQ 600 _ ?_;simp (maxSteps:=3000000) only [go_sem,↓zA,↓reduceIte,↓reduceDIte] <;>try simp only [zB])
  | (refine q0a (c3) ?_;refine uQ 600 _ ?_;simp (maxSteps:=3000000) only [go_sem,↓zA,↓reduceIte,↓reduceDIte] <;>try simp only [zB])
  | (refine q0d (c3) ?_;refine uQ 600 _ ?_;simp (maxSteps:=3000000) only [go_sem,↓zA,↓reduceIte,↓reduceDIte] <;>try simp only [zB])
  | (refine q0i (c3) ?_;refine uQ 600 _ ?_;simp (maxSteps:=3000000) only [go_sem,↓zA,↓reduceIte,↓reduceDIte] <;>try simp only [zB])
  | (refine q0a (i) ?_;refine uQ 600 _ ?_;simp (maxSteps:=3000000) only [go_sem,↓zA,↓reduceIte,↓reduceDIte] <;>try simp only [zB])
  | (refine q0d (i) ?_;refine uQ 600 _ ?_;simp (maxSteps:=3000000) only [go_sem,↓zA,↓reduceIte,↓reduceDIte] <;>try simp only [zB])
  | (refine q0i (i) ?_;refine uQ 600 _ ?_;simp (maxSteps:=3000000) only [go_sem,↓zA,↓reduceIte,↓reduceDIte] <;>try simp only [zB])
  | (refine q0a (h) ?_;refine uQ 600 _ ?_;simp (maxSteps:=3000000) only [go_sem,↓zA,↓reduceIte,↓reduceDIte] <;>try simp only [zB])
  | (refine q0d (h) ?_;refine uQ 600 _ ?_;simp (maxSteps:=3000000) only [go_sem,↓zA,↓reduceIte,↓reduceDIte] <;>try simp only [zB])
  | (refine q0i (h) ?_;refine uQ 600 _ ?_;simp (maxSteps:=3000000) only [go_sem,↓zA,↓reduceIte,↓reduceDIte] <;>try simp only [zB])
  | (with_reducible refine And.intro ?_ ?_)
  | (with_reducible intro _))
 all_goals (grind [mIn])
def chkS(a:Aut)(c:Prin)(now skew:Int):Int:=
 if vAut a=true/\vPrin c=true/\vTime now=true/\(0<=skew/\skew<=86400) then
  if a.1=c then if -skew<=a.2.2.1-now/\a.2.2.1-now<=skew then 0 else 181 else 180
 else 2
theorem j2E(a:Aut)(w:AutT.ok a)(c:Prin)(G:PrinT.ok c)(j i:Int):PC Tryz.prog 23 [.agg (AutT.cells a),.agg (PrinT.cells c),rI j,rI i] (rI (chkS a c j i)):=by
 have c1:=q7p a w;have c2:=q7C c G;have c3:=z2f j;have u:=j1N a.1 c w.1;have o:=j9w a.2.2.1 j i;have y:vAut a=true->vTime a.2.2.1=true:=λh=>by unfold vAut at h;simp only [Ai] at h;exact h.2.2.1
 have hw:vAut a=true->vTime j=true->0<=i->i<=86400->witB a.2.2.1 j i=(decide (-i<=a.2.2.1-j) && decide (a.2.2.1-j<=i)):=λD A F B=>by unfold witB;rw [y D,A];unfold mIn;rw [decide_eq_true F,decide_eq_true B];rfl
 unfold chkS;clear y;generalize vAut a=x1 at*;generalize vPrin c=x2 at*;generalize vTime j=x3 at*;generalize witB a.2.2.1 j i=x4 at*;obtain ⟨n,s,t,m,k,q,d⟩:=a;dsimp only at*;refine q0s rfl rfl ?_;refine rQ fi23 ?_<;>try with_reducible exact True.intro
 repeat' (first
  | (refine q0a (c1) ?_;refine uQ 600 _ ?_;simp (maxSteps:=3000000) only [go_sem,↓zA,↓reduceIte,↓reduceDIte] <;>try simp only [zB])
  | (refine q0d (c1) ?_;refine uQ 600 _ ?_;simp (maxSteps:=3000000) only [go_sem,↓zA,↓reduceIte,↓reduceDIte] <;>try simp only [zB])
  | (refine q0i (c1) ?_;refine uQ 600 _ ?_;simp (maxSteps:=3000000) only [go_sem,↓zA,↓reduceIte,↓reduceDIte] <;>try simp only [zB])
  | (refine q0a (c2) ?_;refine uQ 600 _ ?_;simp (maxSteps:=3000000) only [go_sem,↓zA,↓reduceIte,↓reduceDIte] <;>try simp only [zB])
  | (refine q0d (c2) ?_;refine uQ 600 _ ?_;simp (maxSteps:=3000000) only [go_sem,↓zA,↓reduceIte,↓reduceDIte] <;>try simp only [zB])
  | (refine q0i (c2) ?_;refine uQ 600 _ ?_;simp (maxSteps:=3000000) only [go_sem,↓zA,↓reduceIte,↓reduceDIte] <;>try simp only [zB])
  | (refine q0a (c3) ?_;refine uQ 600 _ ?_;simp (maxSteps:=3000000) only [go_sem,↓zA,↓reduceIte,↓reduceDIte] <;>try simp only [zB])
  | (refine q0d (c3) ?_;refine uQ 600 _ ?_;simp (maxSteps:=3000000) only [go_sem,↓zA,↓reduceIte,↓reduceDIte] <;>try simp only [zB])
  | (refine q0i (c3) ?_;refine uQ 600 _ ?_;simp (maxSteps:=3000000) only [go_sem,↓zA,↓reduceIte,↓reduceDIte] <;>try simp only [zB])
  | (refine q0a (u) ?_;refine uQ 600 _ ?_;simp (maxSteps:=3000000) only [go_sem,↓zA,↓reduceIte,↓reduceDIte] <;>try simp only [zB])
  | (refine q0d (u) ?_;refine uQ 600 _ ?_;simp (maxSteps:=3000000) only [go_sem,↓zA,↓reduceIte,↓reduceDIte] <;>try simp only [zB])
  | (refine q0i (u) ?_;refine uQ 600 _ ?_;simp (maxSteps:=3000000) only [go_sem,↓zA,↓reduceIte,↓reduceDIte] <;>try simp only [zB])
  | (refine q0a (o) ?_;refine uQ 600 _ ?_;simp (maxSteps:=3000000) only [go_sem,↓zA,↓reduceIte,↓reduceDIte] <;>try simp only [zB])
  | (refine q0d (o) ?_;refine uQ 600 _ ?_;simp (maxSteps:=3000000) only [go_sem,↓zA,↓reduceIte,↓reduceDIte] <;>try simp only [zB])
  | (refine q0i (o) ?_;refine uQ 600 _ ?_;simp (maxSteps:=3000000) only [go_sem,↓zA,↓reduceIte,↓reduceDIte] <;>try simp only [zB])
  | (with_reducible refine And.intro ?_ ?_)
  | (with_reducible intro _))
 all_goals (grind)
theorem k0a(x:Int):PC Tryz.prog 203 [rI x] (rB false):=by refine q0s rfl rfl ?_;refine rQ fi203 ?_;trivial
def cmpI(x y:Int):Int:=if x<y then -1 else if y<x then 1 else 0
theorem j4L(x y:Int):PC Tryz.prog 175 [rI x,rI y] (rI (cmpI x y)):=by
 have c1:=k0a x;have c2:=k0a y;refine q0s rfl rfl ?_;refine rQ fi175 ?_<;>try with_reducible exact True.intro
 repeat' (first
  | (refine q0a (c1) ?_;refine uQ 600 _ ?_;simp (maxSteps:=3000000) only [go_sem,↓zA,↓reduceIte,↓reduceDIte] <;>try simp only [zB])
  | (refine q0d (c1) ?_;refine uQ 600 _ ?_;simp (maxSteps:=3000000) only [go_sem,↓zA,↓reduceIte,↓reduceDIte] <;>try simp only [zB])
  | (refine q0i (c1) ?_;refine uQ 600 _ ?_;simp (maxSteps:=3000000) only [go_sem,↓zA,↓reduceIte,↓reduceDIte] <;>try simp only [zB])
  | (refine q0a (c2) ?_;refine uQ 600 _ ?_;simp (maxSteps:=3000000) only [go_sem,↓zA,↓reduceIte,↓reduceDIte] <;>try simp only [zB])
  | (refine q0d (c2) ?_;refine uQ 600 _ ?_;simp (maxSteps:=3000000) only [go_sem,↓zA,↓reduceIte,↓reduceDIte] <;>try simp only [zB])
  | (refine q0i (c2) ?_;refine uQ 600 _ ?_;simp (maxSteps:=3000000) only [go_sem,↓zA,↓reduceIte,↓reduceDIte] <;>try simp only [zB])
  | (with_reducible refine And.intro ?_ ?_)
  | (with_reducible intro _))
 all_goals (grind [cmpI])
theorem z8d(a:Aut):PC Tryz.prog 98 [.agg (AutT.cells a)] (rI a.2.2.1):=by obtain ⟨n,s,t,m,k,q,d⟩:=a;refine q0s rfl rfl ?_;refine rQ fi98 ?_;trivial
theorem z9H(a:Aut):PC Tryz.prog 99 [.agg (AutT.cells a)] (rI a.2.2.2.1):=by obtain ⟨n,s,t,m,k,q,d⟩:=a;refine q0s rfl rfl ?_;refine rQ fi99 ?_;trivial
end Go.Proofs.YthbcodbcndiapaaGreatDoor
namespace Go.Sx
open Go

variable {P:Program} {AQ:Ex->List SV->List SObj->Prop} {k0:Nat} {k:List It} {t:List SV} {H:List SObj}


variable {P:Program} {AQ:Ex->List SV->List SObj->Prop} {k0:Nat} {k:List It} {t:List SV} {H:List SObj}

structure C2P where
 f:FuncId
 p:Nat
 d0:Nat
 d1:Nat
 d2:Nat
 d3:Nat
 d4:Nat
 d5:Nat
 T:TypeId
 m:Nat
 zs:List Value
 ty:Ty
 x:ty.den

def needs(o:Oper)(j:Nat):Prop:=∃e∈o.after,Region.binds .any e=true/\e.on=j
structure IsC2 (P:Program) (all:Array Oper) (c:C2P):Prop where
 size:all.size=8
 top:∀ (i:Nat) (o:Oper),all[i]?=some o->∀e∈o.after,e.on<i
 o0:∃o,all[0]?=some o/\o.op= .load c.T (.tmp c.p)/\o.dst=some c.d0/\o.guard=none
 o1:∃o cl,all[1]?=some o/\o.op= .call cl/\cl.callee= .value (.func c.f)/\cl.args= #[.tmp c.d0]/\o.dst=some c.d1/\o.guard=none/\needs o 0
 o2:∃o,all[2]?=some o/\o.op= .load c.T (.tmp c.p)/\o.dst=some c.d2/\o.guard=none
 o3:∃o cl,all[3]?=some o/\o.op= .call cl/\cl.callee= .value (.func c.f)/\cl.args= #[.tmp c.d2]/\o.dst=some c.d3/\o.guard=none/\needs o 2
 o4:∃o,all[4]?=some o/\o.op= .alloc c.T/\o.dst=some c.d4/\o.guard=none
 o5:∃o,all[5]?=some o/\o.op= .alloc c.T/\o.dst=some c.d5/\o.guard=none
 o6:∃o,all[6]?=some o/\o.op= .store c.T (.tmp c.d4) (.tmp c.d1)/\o.dst=none/\o.guard=none/\needs o 4/\needs o 1
 o7:∃o,all[7]?=some o/\o.op= .store c.T (.tmp c.d5) (.tmp c.d3)/\o.dst=none/\o.guard=none/\needs o 5/\needs o 3
 ag:aggOf P c.T=some (some c.m)
 zero:(P.info? c.T).bind (λi=>i.zero.map (·.cells.toList))=some c.zs
 zlen:c.zs.length=c.m
 tsz:c.ty.size=c.m
 en:enters P c.f=true
 nd:[c.p,c.d0,c.d1,c.d2,c.d3,c.d4,c.d5].Nodup

def Far(E:EnD)(C:Cx)(H:List SObj)(b:Nat):Prop:=E.C.w.heap.size<=b/\b<C.w.heap.size/\¬C.I b/\¬OwnB C H b/\Unf C.w b
def Far.ext{E:EnD}{C C':Cx}{b:Nat}(h:Far E C H b)(D:Ext ⟨C,H⟩ C' H):Far E C' H b/\C'.w.heap[b]?=C.w.heap[b]?:=by obtain ⟨A,y,o,B,u⟩:=h;obtain ⟨j,i,F,d⟩:=z3E D y o B;exact ⟨⟨A,j,i,F,u.keep d⟩,d⟩

def upd(β:Nat->Bool)(i:Nat):Nat->Bool:=λj=>if j=i then true else β j
structure R2 (c:C2P) (E:EnD) (tm:List SV) (H:List SObj) (β:Nat->Bool) (vs:List Value) (q:Nat->Prop) (b4 b5:Nat) (C:Cx) (a:Act):Prop where
 den: @Den noGhost E C tm H a
 f0:β 0=true->∃ws:List Value,a.tmps[c.d0]?=some (.agg ws.toArray)/\SV.denL C (c.ty.cells c.x) ws
 f1:β 1=true->a.tmps[c.d1]?=some (.agg vs.toArray)/\c.ty.rel q C.w c.x vs/\∀b,q b->Far E C H b
 f2:β 2=true->∃ws:List Value,a.tmps[c.d2]?=some (.agg ws.toArray)/\SV.denL C (c.ty.cells c.x) ws
 f3:β 3=true->∃ws:List Value,a.tmps[c.d3]?=some (.agg ws.toArray)/\SV.denL C (c.ty.cells c.x) ws
 f4:β 4=true->a.tmps[c.d4]?=some (.pointer (some ⟨b4,0,none⟩))/\Far E C H b4/\(β 1=true->¬q b4)/\C.w.heap[b4]?=some (.cells (if β 6=true then vs else c.zs).toArray c.T (0,0))
 f5:β 5=true->a.tmps[c.d5]?=some (.pointer (some ⟨b5,0,none⟩))/\Far E C H b5/\(β 1=true->¬q b5)/\(β 4=true->b5≠b4)/\∃us:List Value,C.w.heap[b5]?=some (.cells us.toArray c.T (0,0))/\us.length=c.m/\(β 7=true->SV.denL C (c.ty.cells c.x) us)
 i6:β 6=true->β 4=true/\β 1=true
 i7:β 7=true->β 5=true/\β 3=true

variable {c:C2P} {E:EnD} {tm:List SV} {β:Nat->Bool} {vs:List Value} {q:Nat->Prop} {b4 b5:Nat} {C C':Cx} {a:Act}

theorem R2.ext(r:R2 c E tm H β vs q b4 b5 C a)(y:Wd C' H)(i:Ext ⟨C,H⟩ C' H):R2 c E tm H β vs q b4 b5 C' a where
 den:=⟨y,r.den.ext.trans i,⟨r.den.defs.1,⟨r.den.defs.2.1.tab.next i,r.den.defs.2.1.old⟩,trivial⟩,q0h i.evo r.den.tmps⟩
 f0:=λh=>by obtain ⟨ws,j,d⟩:=r.f0 h;exact ⟨ws,j,q0h i.evo d⟩
 f1:=λh=>by obtain ⟨j,d,o⟩:=r.f1 h;exact ⟨j,Ty.rel_keep (λb u=>⟨u,((o b u).ext i).2⟩) _ _ _ d,λb u=>((o b u).ext i).1⟩
 f2:=λh=>by obtain ⟨ws,j,d⟩:=r.f2 h;exact ⟨ws,j,q0h i.evo d⟩
 f3:=λh=>by obtain ⟨ws,j,d⟩:=r.f3 h;exact ⟨ws,j,q0h i.evo d⟩
 f4:=λh=>by obtain ⟨j,d,o,w⟩:=r.f4 h;exact ⟨j,(d.ext i).1,o,(d.ext i).2.trans w⟩
 f5:=λh=>by obtain ⟨j,d,o,w,us,D,A,B⟩:=r.f5 h;exact ⟨j,(d.ext i).1,o,w,us,(d.ext i).2.trans D,A,λh=>q0h i.evo (B h)⟩
 i6:=r.i6
 i7:=r.i7

variable {v:Value}
theorem j6J{d:Nat}(h: @Den noGhost E C tm H a)(hd:tm[d]?=some .any): @Den noGhost E C tm H (a.put (some d) v):=by
 refine ⟨h.wd,h.ext,⟨h.defs.1,h.defs.2.1,trivial⟩,?_⟩;simp only [Act.put,Array.toList_setIfInBounds];have h1:=q2G (i:=d) (s:=.any) (v:=v) h.tmps (by rw [SV.den];trivial);have h2:tm.set d .any=tm:=by apply Ba;grind
 grind
theorem k0u{d e:Nat}(h:d≠e):(a.put (some d) v).tmps[e]?=a.tmps[e]?:=by grind [Act.put]

theorem R2.put{i d:Nat}{v:Value}(r:R2 c E tm H β vs q b4 b5 C a)(hnd:[c.p,c.d0,c.d1,c.d2,c.d3,c.d4,c.d5].Nodup)(hi:β i=false)(hd:[c.d0,c.d1,c.d2,c.d3,c.d4,c.d5][i]?=some d)(w:tm[d]?=some .any):R2 c E tm H β vs q b4 b5 C (a.put (some d) v):=by
 have key:∀ (j e:Nat),[c.d0,c.d1,c.d2,c.d3,c.d4,c.d5][j]?=some e->β j=true->(a.put (some d) v).tmps[e]?=a.tmps[e]?:=λj e he hj=>k0u λh=>by grind [List.getElem?_inj]
 refine ⟨j6J r.den w,λh=> ?_,λh=> ?_,λh=> ?_,λh=> ?_,λh=> ?_,λh=> ?_,r.i6,r.i7⟩
 . obtain ⟨ws,u,o⟩:=r.f0 h;grind
 . obtain ⟨u,o⟩:=r.f1 h;grind
 . obtain ⟨ws,u,o⟩:=r.f2 h;grind
 . obtain ⟨ws,u,o⟩:=r.f3 h;grind
 . obtain ⟨u,o⟩:=r.f4 h;grind
 obtain ⟨u,o⟩:=r.f5 h;grind


variable {P:Program} {AQ:Ex->List SV->List SObj->Prop} {k0:Nat} {k:List It} {t:List SV} {H:List SObj}
variable {c:C2P} {E:EnD} {tm:List SV} {β:Nat->Bool} {vs:List Value} {q:Nat->Prop} {b4 b5:Nat} {C C':Cx} {a:Act}


variable {P:Program} {AQ:Ex->List SV->List SObj->Prop} {k0:Nat} {k:List It} {t:List SV} {H:List SObj}
variable {c:C2P}


variable {P:Program} {AQ:Ex->List SV->List SObj->Prop} {k0:Nat} {k:List It} {t:List SV} {H:List SObj}


variable {P:Program} {AQ:Ex->List SV->List SObj->Prop} {k0:Nat} {td:List IT} {t:List SV} {H:List SObj}

variable {P:Program} {AQ:Ex->List SV->List SObj->Prop} {k0:Nat}

variable {P:Program} {AQ:Ex->List SV->List SObj->Prop} {k0:Nat} {k:List IT}

variable {P:Program} {AQ:Ex->List SV->List SObj->Prop} {k0:Nat} {H:List SObj}

variable {P:Program} {AQ:Ex->List SV->List SObj->Prop} {k0:Nat} {H:List SObj}

section
variable [Ghost] {P:Program} {AQ:Ex->List SV->List SObj->Prop} {k0:Nat} {k:List IT} {t:List SV} {H:List SObj}

def z0G{G X a b:Prop}(h:a\/b)(h1:a->X->G)(h2:b->X->G)(hx:X):G:=h.elim (λk=>h1 k hx) (λk=>h2 k hx)
def cvI:IOp->Bool
 |.toStr .. =>true
 |.mlk .. =>true
 |_=>false
theorem j9j{o:Oper}{i:IOp}(h:compOp P o.op=some i)(d:cvI i=true):isCv o=true:=by
 unfold isCv;generalize o.op=op at h⊢;cases op with
 |convert=>rfl
 |lookup=>rfl
 |_=>
  exfalso;unfold compOp at h;repeat' split at h
  all_goals first
   |contradiction
   | (cases h;cases d;done)
   | (simp only [A8,An,Option.some.injEq] at h;obtain ⟨_,_,rfl⟩:=h;cases d;done)
   | (simp only [A8,An,Option.some.injEq] at h;obtain ⟨_,_,_,_,rfl⟩:=h;cases d;done)
theorem j9C{G:List Nat}{l:List (Bool×OpI)}{w:OpI}{p:Prop}{s:SV}(D:cvI w.op=true)(hg:w.guard=none\/∃d b,w.guard=some (d,b)/\t.getD d .any= .raw (.bool b))(he:∀H',SameG (strictP G) H H'->w.op.ev H' (evT t)= .val p s)(X:p)
 (L:SoundI P AQ ⟨k0,.dops G l :: k,putT t w.dst s,H⟩):SoundI P AQ ⟨k0,.dops G ((true,w) :: l) :: k,t,H⟩:=by
 intro all j fuel k' I Z;obtain ⟨U,i,o,A,rfl,Y,N,B,hB,u,y,J⟩:=q1I I;have R:A=w:=by
  rcases J with h|h
  . grind
  obtain ⟨d0,op0,g0⟩:=A;obtain ⟨d1,op1,g1⟩:=w;simp only at u y h D⊢;have F:=h.2;cases op0<;>simp only [toS] at F<;>first| (subst F;cases D;done) | (subst u;subst y;rw [F])
 subst R;obtain ⟨hc,S⟩:=q0K N;have W:wantedT all t o=some true:=by grind [q0C]
 obtain ⟨V,F⟩:=q1Z hB;have O:closedB all j=true:=by grind [j9j,ldChkS]
 refine q9S (s:=s) V O Y (.inl ⟨W,λH' hs K L=>q2D hc ?_⟩) ?_
 . rw [he H' hs];exact ⟨X,L⟩
 rw [<-S];exact L all _ U k' B Z
end

variable {P:Program} {AQ:Ex->List SV->List SObj->Prop} {k0:Nat}

theorem z9o[Ghost]{G:List Nat}{l:List (Bool×OpI)}{d:Option Tmp}{i:Option IntKind}{z:Value}{ok:Bool}{m x:Operand}{h:Nat}{u:Value}{o:List Value}{vs:List SV}{s:SV}(hm:evT t m= .mp h)(hx:evT t x= .raw u)(hG:(strictP G).contains h=true)(y:H[h]?=some (.map i o vs))(hkey:keyIs i u=true)(hs:mres ok (mget o vs z u)=s)
 (w:SoundI P AQ ⟨k0,.dops G l :: k,putT t d s,H⟩):SoundI P AQ ⟨k0,.dops G ((true,⟨d,.mlk i z ok m x,none⟩) :: l) :: k,t,H⟩:=by
 refine j9C rfl (.inl rfl) (p:=True) (s:=s) (λH' j=> ?_) trivial w;have hH':H'[h]?=some (.map i o vs):=by rw [j h (by grind)];exact y
 simp_all [IOp.ev,mapOf]
variable {n:Nat}
theorem q6D{ty:Ty}{xs:List ty.den}{H':List SObj}{h m:Nat}(o:H'[h]?=some (.row ty xs))(w:n=m)(j:∀n,H'[0]?≠some (.mark n)):Weak 1 (λo' d=>o'= .ret (.bld 1 ty m)/\d= [.dead,.row ty xs]) (.ret (.bld h ty n)) H':=by subst w;exact ⟨λi=>if i=0 then 0 else h,.bld 1 ty n,.bld 1 ty n,[.dead,.row ty xs],⟨⟨rfl,trivial⟩,⟨o,trivial⟩,rfl,rfl,rfl,rfl,Nat.le_succ 1,λn _ u=>absurd u (j n)⟩,.inl (.inl rfl),⟨rfl,rfl⟩⟩

section
variable [Ghost]
theorem z1D{F:Fence}{Q:Exit->Act->World->Prop}{w:World}{c rest:Code}{l:Nat}(hQ:∀l a w,¬Q (.goto l) a w)(R:findLabel c l=some rest)
 (h:c.wpIn F n P (λe a w=>match e with|.goto l'=>l'=l/\rest.wpIn F n P Q a w|e=>Q e a w) a w):(Code.scope c).wpIn F n P Q a w:=by
 intro b k cs G B I;have y:(lone (b.atR a (.code (.scope c) :: k)) cs w).fenced P F:=fenced_calm B I rfl;have O:gotoIn l (.inScope c :: k)=some (.code rest :: .inScope c :: k):=by simp [gotoIn,R]
 obtain ⟨e,L,D,o,i⟩:=h b (.inScope c :: k) cs G B I;cases e with
 |normal=>exact ⟨.normal,L,D,o,.head y q0M (StepsIn.trans i (.one (fenced_calm B I rfl) q3I))⟩
 |exit id'=>
  have S:exitTo id' (.inScope c :: k)=exitTo id' k:=by simp [exitTo]
  exact ⟨.exit id',L,D,o,λk' N=>.head y q0M (i.1 k' (by simp_all)),
   λu N=>let ⟨k₁,h1,h2⟩:=i.2 u (by simp_all);⟨k₁,h1,.head y q0M h2⟩⟩
 |goto l'=>
  obtain ⟨rfl,o⟩:=o;have A:=StepsIn.trans (.one y q0M) (i.1 _ O);obtain ⟨e,J,K,j,d⟩:=o b (.inScope c :: k) cs G B I;cases e with
  |normal=>exact ⟨.normal,J,K,j,StepsIn.trans A (StepsIn.trans d (.one (fenced_calm B I rfl) q3I))⟩
  |exit id'=>
   have S:exitTo id' (.inScope c :: k)=exitTo id' k:=by simp [exitTo]
   exact ⟨.exit id',J,K,j,λk' N=>StepsIn.trans A (d.1 k' (by simp_all)),
    λu N=>let ⟨k₁,h1,h2⟩:=d.2 u (by simp_all);⟨k₁,h1,StepsIn.trans A h2⟩⟩
  |goto l=>simp_all
  |ret=>exact ⟨_,J,K,j,.of_steps A d⟩
  |panic ch=>exact ⟨_,J,K,j,.of_steps A d⟩
  |outgrown=>exact ⟨_,J,K,j,.of_steps A d⟩
 |ret=>exact ⟨_,L,D,o,.of_steps (.one y q0M) i⟩
 |panic ch=>exact ⟨_,L,D,o,.of_steps (.one y q0M) i⟩
 |outgrown=>exact ⟨_,L,D,o,.of_steps (.one y q0M) i⟩
end

inductive GS where
 |ic (c:IC)
 |gc (c:Operand)
def stepsG(P:Program)(l:Nat):List Code->Option (List GS×List IC)
 | []=>none
 |.label l' :: cs=>if l'=l then (compAll P cs).map λb=>([],b) else none
 |.cond c (.goto l') .skip :: cs=>if l'=l then (stepsG P l cs).map λx=>(.gc c :: x.1,x.2) else none
 |c :: cs=>match comp P c with
  |some x=>(stepsG P l cs).map λy=>(.ic x :: y.1,y.2)
  |none=>none
def labelG:List Code->Option Nat
 | []=>none
 |.label l :: _=>some l
 |_ :: cs=>labelG cs
structure GI where
 ntmps:Nat
 results:List ResultVar
 pre:List IC
 steps:List GS
 fall:List IC
 jump:List IC
def scopeG(P:Program)(fn:Func):List Code->Option GI
 | [.scope c]=>match labelG (flatC c) with
  |some l=>match stepsG P l (flatC c),findLabel c l with
   |some (s,b),some rest=>match compAll P (flatC rest) with
    |some j=>some ⟨fn.ntmps,fn.results.toList,[],s,b,j⟩
    |none=>none
   |_,_=>none
  |none=>none
 |x :: cs=>match comp P x,scopeG P fn cs with
  |some i,some g=>some {g with pre:=i :: g.pre}
  |_,_=>none
 | []=>none
def ginfo(P:Program)(f:FuncId):Option GI:=
 match P.funcs[f]? with
 |some fn=>match fn.body with
  |some c=>if fn.name== "runtime.NumGoroutine" then none else scopeG P fn (flatC c)
  |none=>none
 |none=>none

def GoI[Ghost](P:Program)(AQ:Ex->List SV->List SObj->Prop)(k0:Nat)(fall jump:List IC):List GS->List SV->List SObj->Prop
 | [],t,H=>SoundI P AQ ⟨k0,fall.map .ic,t,H⟩
 |.ic c :: s,t,H=>SoundI P AQ ⟨k0,[.ic c,.stop λt' H'=>GoI P AQ k0 fall jump s t' H'],t,H⟩
 |.gc c :: s,t,H=>∃b,evT t c= .raw (.bool b)/\(b=true->SoundI P AQ ⟨k0,jump.map .ic,t,H⟩)/\(b=false->GoI P AQ k0 fall jump s t H)

def goQ[Ghost](P:Program)(AQ:Ex->List SV->List SObj->Prop)(E:EnD)(r:Option Nat)(n l:Nat)(rest:Code):Exit->Act->World->Prop
 |.goto l',a,w=>l'=l/\rest.wpIn (Fw r) n P (conc E AQ) a w
 |e,a,w=>conc E AQ e a w
theorem j2X[Ghost]{l:Nat}{rest:Code}{j o:List IC}(W:compAll P (flatC rest)=some o){r:Option Nat}(L:Fit E r k0):
 ∀ (cs:List Code) (s:List GS) (t:List SV) (H:List SObj) (C:Cx) (a:Act),stepsG P l cs=some (s,j)->GoI P AQ k0 j o s t H->Den E C t H a->
  wpT (Fw r) n P E (goQ P AQ E r n l rest) (cs.map .code) a C.w:=by
 have B:∀ (e:Exit) (a:Act) (w:World),conc E AQ e a w->goQ P AQ E r n l rest e a w:=λe a w h=>by cases e<;>first|exact h|exact h.elim
 have i:∀ (cs:List Code) (b:List IC) (t:List SV) (H:List SObj) (C:Cx) (a:Act),compAll P cs=some b->SoundI P AQ ⟨k0,b.map .ic,t,H⟩->Den E C t H a->wpT (Fw r) n P E (conc E AQ) (cs.map .code) a C.w:=λcs b t H C a X d D=>q0f d (rel_codes' (z0b X)) E r n C a L D;intro cs;induction cs with
 |nil=>intro s t H C a d;cases d
 |cons c cs ih=>
  intro s t H C a d J D
  have A:(match comp P c with
   |some x=>(stepsG P l cs).map λy=>(.ic x :: y.1,y.2)
   |none=>none)=some (s,j)->wpT (Fw r) n P E (goQ P AQ E r n l rest) ((c :: cs).map .code) a C.w:=λd=>by
   split at d
   . rename_i x V;cases K:stepsG P l cs with
     |none=>simp_all
     |some y=>
      rw [K] at d;obtain ⟨R,Y⟩:=y;simp only [CV,Option.some.injEq,Prod.mk.injEq] at d;obtain ⟨rfl,rfl⟩:=d;have G:=q0f J ⟨c,_,rfl,V,_,rfl,rfl⟩ E r n C a L D;simp only [AB,wpT] at G⊢;refine wpIn_mono G λe a w I=> ?_;cases e with
      |normal=>grind
      |exit id=>have:=(q5g (F:=Fw r) (n:=n) (P:=P) (E:=E) (Q:=goQ P AQ E r n l rest) (id:=id) (a:=a) (w:=w) (k:=[]) cs).2;rw [Ac] at this;exact this I
      |ret=>exact I
      |panic ch=>exact I
      |goto l=>exact I.elim
      |outgrown=>exact I
   cases d
  cases c with
  |label l'=>
   unfold stepsG at d;split at d
   . cases u:compAll P cs with
     |none=>simp_all
     |some b=>rw [u] at d;simp only [CV,Option.some.injEq,Prod.mk.injEq] at d;obtain ⟨rfl,rfl⟩:=d;have G:=i cs _ t H C a u J D;have O:wpT (Fw r) n P E (goQ P AQ E r n l rest) (cs.map .code) a C.w:=(q3x (F:=Fw r) (n:=n) (E:=E) (E':=E) B (cs.map .code) (q6Z cs)).1 a C.w G;grind [wpT,wpIn_label]
   cases d
  |cond e x y=>
   cases x with
   |goto l'=>
    cases y with
    |skip=>
     unfold stepsG at d;split at d
     . rename_i U;cases K:stepsG P l cs with
       |none=>simp_all
       |some y=>
        rw [K] at d;obtain ⟨R,Y⟩:=y;simp only [CV,Option.some.injEq,Prod.mk.injEq] at d;obtain ⟨rfl,rfl⟩:=d;obtain ⟨b,u,S,g2⟩:=J;have N:=q2B D.tmps e;rw [u,SV.den] at N;simp only [AB,wpT];refine wpIn_cond_split N (λu=> ?_) (λu=> ?_)
        . refine wpIn_goto ⟨U,?_⟩;have G:=i _ _ t H C a W (S u) D;have O:=q6c rest [] a C.w (by rw [Ac];exact G);grind [wpT,wpIn_mono,exitT]
        grind [wpIn_skip]
     cases d
    |_=>exact A (by simpa only [stepsG] using d)
   |_=>exact A (by simpa only [stepsG] using d)
  |_=>exact A (by simpa only [stepsG] using d)

theorem z8o{fn:Func}:∀ {cs:List Code} {g:GI},scopeG P fn cs=some g->g.ntmps=fn.ntmps/\g.results=fn.results.toList/\∃ (d:List Code) (c:Code) (l:Nat) (rest:Code),cs=d++ [.scope c]/\d.map (comp P)=g.pre.map some/\stepsG P l (flatC c)=some (g.steps,g.fall)/\findLabel c l=some rest/\compAll P (flatC rest)=some g.jump:=by
 intro cs;have o:∀ (x:Code) (cs:List Code) (g:GI),(∀ {g:GI},scopeG P fn cs=some g->g.ntmps=fn.ntmps/\g.results=fn.results.toList/\∃ (d:List Code) (c:Code) (l:Nat) (rest:Code),cs=d++ [.scope c]/\d.map (comp P)=g.pre.map some/\stepsG P l (flatC c)=some (g.steps,g.fall)/\findLabel c l=some rest/\compAll P (flatC rest)=some g.jump)->
  (match comp P x,scopeG P fn cs with
   |some i,some g=>some {g with pre:=i :: g.pre}
   |_,_=>none)=some g->g.ntmps=fn.ntmps/\g.results=fn.results.toList/\∃ (d:List Code) (c:Code) (l:Nat) (rest:Code),x :: cs=d++ [.scope c]/\d.map (comp P)=g.pre.map some/\stepsG P l (flatC c)=some (g.steps,g.fall)/\findLabel c l=some rest/\compAll P (flatC rest)=some g.jump:=λx cs g u h=>by
  grind
 induction cs with
 |nil=>intro g h;cases h
 |cons x cs u=>
  intro g h;cases cs with
  |cons y cs=>grind [scopeG]
  |nil=>
   cases x with
   |scope c=>
    unfold scopeG at h;split at h
    . rename_i l hl;split at h
      . rename_i s b rest B A;split at h
        . rename_i j w;cases h;exact ⟨rfl,rfl,[],c,l,rest,rfl,rfl,B,A,w⟩
        cases h
      cases h
    cases h
   |_=>exact o _ [] g u (by simpa only [scopeG] using h)

theorem z6V{f:FuncId}{i:GI}{args:List SV}{K:Out->List SObj->Prop}(h:ginfo P f=some i)
 (F: @SoundI noGhost P (retF P i.results K) ⟨H.length,i.pre.map .ic++ [.stop λt H'=> @GoI noGhost P (retF P i.results K) H.length i.fall i.jump i.steps t H'],args++List.replicate (i.ntmps-args.length) .any,H⟩):VC P f args H K:=by
 unfold ginfo at h;split at h
 . rename_i fn O;split at h
   . rename_i c G;split at h
     . cases h
     rename_i hn;obtain ⟨V,L,o,y,l,rest,u,R,I,X,N⟩:=z8o h;refine ⟨by grind [enters],?_⟩;rw [V,L] at F;have d:retQ P fn K=retF P fn.results.toList K:=by funext e t H;rfl
     refine q8q O G ?_;rw [d];intro E r n C a B j;refine q6c c [] a C.w ?_;rw [Ac,u,By];have J:=q0f F (q7N R) E r n C a B j;refine q6G (Q1:=conc E (retF P fn.results.toList K)) (λe a w _ h=>h) (λid a w ⟨_,_,_,d,_⟩=>d) (λa C t H S j=> ?_) o a C.w J;have A:=j2X (n:=n) N B (flatC y) i.steps t H C a I S j;rw [<-Ac ((flatC y).map It.code)] at A;have D:=q6c y [] a C.w A;simp only [AB,BJ,wpT] at D⊢;refine z1D (l:=l) (rest:=rest) ?_ X ?_
     . rintro W a w U;exact U.elim
     refine wpIn_mono D λe a w d=> ?_;cases e with
     |goto W=>refine ⟨d.1,wpIn_mono d.2 λe a w d=> ?_⟩;grind [exitT]
     |exit id=>simp only [exitT] at d⊢;exact d
     |_=>exact d
   cases h
 cases h
end Go.Sx