/- The plain law: the program and the reference tell the same of entries. -/
import Derived.Test.YthbcodbcndiapaaGreatDoorXRv
import Derived.Deep.Draws
import Derived.Sort.Grow
set_option linter.all false
namespace Go.Proofs.YthbcodbcndiapaaGreatDoor
open Go Go.Sx Go.Proofs
set_option maxRecDepth 100000
set_option maxHeartbeats 1000000
set_option maxHeartbeats 4000000
def z9V(n:Nat):(lenS n).length<=4:=by
 unfold lenS;split
 . simp
 split
 . simp
 split<;>simp
def z1s(t:UInt8)(l:List (List UInt8)):(elemS t l).length<=l.flatten.length+5:=by
 unfold elemS;split
 . have:=z9V l.flatten.length;simp only [tlv,AB,Ab];omega
 simp
def j1y(v:Int):intSz v<=9:=by
 unfold intSz;cases h:firstN 9 (oneB v) with
 |none=>simp
 |some k=>have:=(z3k h).1;simp;omega
def j0n(v:Int):(intS v).length<=14:=by
 unfold intS;split
 . have a:=z1s 2 [numS v (intSz v)];have j:=j1y v;simp only [A6,List.flatten_nil,Ad,numS,A3,Cg] at a j⊢;omega
 simp
def sgn1(x:UInt8):Int:=IntKind.i8.wrap (x.toNat:Int)
def sgn(c:List UInt8):Int:=(c.drop 1).foldl (λv x=>v*256+ (x.toNat:Int)) (sgn1 (c.getD 0 0))
def decInt(c:List UInt8):Option Int:=if 1<=c.length/\c.length<=8/\intS (sgn c)=elemS 2 [c] then some (sgn c) else none
def decTime(c:List UInt8):Option Nat:=if c.length=6/\beN c<=1099511627776 then some (beN c) else none
def decStr(c:List UInt8):Option ByteArray:=some ⟨c.toArray⟩
def decOct(c:List UInt8):Option (List UInt8):=some c
def intP:PR Int:=rdP 2 decInt
def octP:PR (List UInt8):=rdP 4 decOct
def timeP:PR Nat:=rdP 24 decTime
def strP:PR ByteArray:=rdP 27 decStr
variable {α:Type}{tag:UInt8}{r:List UInt8}{v:α}{k:Nat}
theorem q6d{dec:List UInt8->Option α}(h:rdP tag dec r= .ok (v,k)):takeE tag r=0/\dec (takeC r)=some v/\k=takeN r:=by
 unfold rdP at h;split at h
 . split at h
   . cases h;exact ⟨by assumption,by assumption,rfl⟩
   cases h
 cases h
variable {e:Nat}
theorem z1G{dec:List UInt8->Option α}(h:rdP tag dec r= .error e):(takeE tag r=0/\dec (takeC r)=none/\e=6)\/(takeE tag r≠0/\e=takeE tag r):=by
 unfold rdP at h;split at h
 . split at h
   . cases h
   cases h;exact .inl ⟨by assumption,by assumption,rfl⟩
 cases h;exact .inr ⟨by assumption,rfl⟩
theorem j2K{dec:List UInt8->Option α}(h:rdP tag dec r= .ok (v,k)):k<=r.length:=by obtain ⟨a,_,rfl⟩:=q6d h;exact q3f a
def z7r(v:Int)(c:Nat)(hv: -36028797018963968<=v/\v<36028797018963968)(w:c<256):IntKind.i64.wrap ((BitVec.ofInt 64 (v*256) |||BitVec.ofInt 64 ((c:Nat):Int)).toNat:Int)=v*256+c:=by
 obtain ⟨m,a⟩:∃m:Nat,(BitVec.ofInt 64 (v*256)).toNat=m*256/\((m:Int)*256=v*256\/(m:Int)*256=v*256+18446744073709551616):=by
  refine ⟨((v*256)%18446744073709551616).toNat / 256,?_,?_⟩
  . rw [BitVec.toNat_ofInt];have:(((2^ 64:Nat)):Int)=18446744073709551616:=by decide
    rw [this];omega
  omega
 have l:(BitVec.ofInt 64 ((c:Nat):Int)).toNat=c:=by rw [AK,AR];exact AP (by omega)
 have u:m*256|||c=m*256+c:=by have:=Cn (b:=c) (i:=8) w m;rw [CL] at this;exact this.symm
 rw [B8,a.1,l,u];have j:∀x:Int,IntKind.i64.wrap x=if x%18446744073709551616<9223372036854775808 then x%18446744073709551616 else x%18446744073709551616-18446744073709551616:=λx=>by simp [IntKind.wrap,IntKind.bits,IntKind.signed];split<;>omega
 rw [j]
 push_cast
 rcases a.2 with h|h<;>split<;>omega
def sgnK(c:List UInt8)(i:Nat):Int:=((c.drop 1).take i).foldl (λv x=>v*256+ (x.toNat:Int)) (sgn1 (c.getD 0 0))
def z7t(x:UInt8): -128<=sgn1 x/\sgn1 x<128:=by have:=x.toNat_lt;unfold sgn1;simp [IntKind.wrap,IntKind.bits,IntKind.signed];omega
variable {c:List UInt8}
theorem z0Q{i:Nat}(h:i< (c.drop 1).length):sgnK c (i+1)=sgnK c i*256+ (((c.drop 1).getD i 0).toNat:Int):=by unfold sgnK;rw [q1W (d:=0) h,List.foldl_append];rfl
def z6o(c:List UInt8):∀i,i<=(c.drop 1).length-> -(128*256^ i:Nat)<=sgnK c i/\sgnK c i< (128*256^ i:Nat)
 |0,_=>by have:=z7t (c.getD 0 0);simpa [sgnK] using this
 |i+1,h=>by have ih:=z6o c i (by omega);have hx:=((c.drop 1).getD i 0).toNat_lt;rw [z0Q (by omega),Nat.pow_succ];omega
def j4q(a b:List UInt8)(ha:a.length<=140737488355328)(hb:b.length<=140737488355328):PC Tryz.prog 101 [.isl .u8 a,.isl .u8 b] (rB (decide (a=b))):=by refine q0s rfl rfl ?_;refine rQ fi101 ?_;exact decide_eq_decide.2 ⟨λh=>by simpa [strOf] using h,λh=>by rw [h]⟩
def iVal(c:List UInt8):Int:=if c.length<1\/8<c.length then 0 else sgn c
theorem z5x{v:Int}(h:decInt c=some v):v=iVal c:=by
 unfold decInt at h;split at h
 . rename_i hc;cases h;unfold iVal;rw [if_neg (by omega)]
 cases h
def j0O(c:List UInt8):sgnK c (c.drop 1).length=sgn c:=by unfold sgnK sgn;rw [Aw]
theorem j3e(c:List UInt8)(hc:c.length<=1099511627776):PC Tryz.prog 131 [.isl .u8 c] (.tup [rI (iVal c),rB (decInt c).isSome]):=by
 refine q0l rfl rfl ?_;refine rQ fi131 ?_;have F:(c.length<1\/8<c.length)->iVal c=0/\(decInt c).isSome=false:=λh=>by unfold iVal decInt;rw [if_pos h,if_neg (by omega)];exact ⟨rfl,rfl⟩
 refine ⟨λN=>⟨λO=> ?_,λO=>⟨by omega,⟨by omega,Ac _⟩,?_⟩⟩,λN=> ?_⟩
 . obtain ⟨w,u⟩:=F (by omega);rw [w,u];exact ⟨rfl,rfl⟩
 rotate_left
 . obtain ⟨w,u⟩:=F (by omega);rw [w,u];exact ⟨rfl,rfl⟩
 have D:IntKind.i64.wrap (IntKind.i8.wrap ((c.getD 0 Ty.u8.dflt).toNat:Int))=sgnK c 0:=by have:=z7t (c.getD 0 0);show IntKind.i64.wrap (sgn1 (c.getD 0 0))=_;rw [wrapi (by omega)];rfl
 rw [D];have A:List.take c.length c=c:=Aw;rw [A];have hl:(c.drop 1).length=c.length-1:=Ah;generalize y:c.drop 1=d at*;refine q1f (λi=>[(4,rI (sgnK c i)),(23,.raw (.int .i64 ((i:Nat):Int)))]) (d.length) (λj=>(λ_=>true) j=true) (by first|decide|simp) (λi=>rfl) ?_ λi hi l=> ?_
 . (with_reducible refine sxE ?_<;>try exact True.intro)
   all_goals (try rfl)
 have E:=wsx i (by omega);refine gQ ?_;have B:i< (d.length)->(λ_=>true) i=false->allN (d.length) (λ_=>true)=false:=λa U=>q0C a U;have fin:¬i< (d.length)->allN (d.length) (λ_=>true)=true:=λh=>q0E λj hj=>l j (by omega);try dsimp only at B fin l
 refine ⟨λa=>⟨⟨by omega,a⟩,?_⟩,λhge=> ?_⟩
 . have hb:=z6o c i (by rw [y];omega);have hp:256^ i<=256^ 6:=Bk (by decide) (by omega);have R:(d.getD i Ty.u8.dflt).toNat<256:=BW _;have J:sgnK c i*2^ min 8 64=sgnK c i*256:=rfl;have w:IntKind.i64.wrap (sgnK c i*256)=sgnK c i*256:=wrapi (by omega);have u:IntKind.i64.wrap ((d.getD i Ty.u8.dflt).toNat:Int)=((d.getD i Ty.u8.dflt).toNat:Int):=wrapi (by omega);have S:=z7r (sgnK c i) (d.getD i Ty.u8.dflt).toNat (by omega) R;have I:=z0Q (c:=c) (i:=i) (by rw [y];exact a);rw [y] at I;rw [J,w,u];refine ⟨a,trivial,⟨[],rfl⟩,?_⟩;with_reducible refine sx1 E ?_
   rw [I];exact congrArg (Value.int .i64) S
 obtain rfl:i=d.length:=by omega
 have hall':=j0O c;rw [y] at hall';rw [hall'];refine cQ (q2B (sgn c)) ?_;refine q0F 0 ?_;with_reducible refine sxE ?_
 refine q0b (q2r 2 2 rfl [c] (by simp)) ?_;have g1:=j0n (sgn c);have L:=z1s 2 [c];simp only [A6,List.flatten_nil,Ad] at L;refine gQ ?_;refine cQ (j4q _ _ (by omega) (by omega)) ?_;have w:iVal c=sgn c:=by unfold iVal;rw [if_neg (by omega)]
 have u:(decInt c).isSome=decide (intS (sgn c)=elemS 2 [c]):=by
  unfold decInt;by_cases h:intS (sgn c)=elemS 2 [c]
  . rw [if_pos ⟨by omega,by omega,h⟩,decide_eq_true h];rfl
  rw [if_neg (λq=>h q.2.2),decide_eq_false h];rfl
 rw [w,u];exact ⟨rfl,rfl⟩
def tVal(c:List UInt8):Nat:=if c.length≠6 then 0 else beN c
theorem z8q(c:List UInt8):PC Tryz.prog 144 [.isl .u8 c] (.tup [rI (tVal c),rB (decTime c).isSome]):=by
 refine q0l rfl rfl ?_;refine rQ fi144 ?_;refine ⟨λl=> ?_,λl=>q0b (z5s c (by omega)) ?_⟩
 . have a:tVal c=0:=by unfold tVal;rw [if_pos (by omega)]
   have j:(decTime c).isSome=false:=by unfold decTime;rw [if_neg (by omega)];rfl
   rw [a,j];exact ⟨rfl,rfl⟩
 have a:tVal c=beN c:=by unfold tVal;rw [if_neg (by omega)]
 have j:(decTime c).isSome=decide (((beN c:Nat):Int)<=1099511627776):=by
  unfold decTime;by_cases h:beN c<=1099511627776
  . rw [if_pos ⟨by omega,h⟩,decide_eq_true (by omega)];rfl
  rw [if_neg (by omega),decide_eq_false (by omega)];rfl
 rw [a,j];refine gQ ?_;trivial
theorem j2M(c:List UInt8)(hc:c.length<=1099511627776):PC Tryz.prog 187 [.isl .u8 c] (.tup [rS ⟨c.toArray⟩,rB true]):=by refine q0l rfl rfl ?_;refine rQ fi187 ?_;rfl
def j3a(c:List UInt8)(hc:c.length<=1099511627776):PC Tryz.prog 143 [.isl .u8 c] (.tup [.isl .u8 c,rB true]):=by refine q0l rfl rfl ?_;refine rQ fi143 ?_;refine cQ (q1C c (by omega)) ?_;trivial
theorem z2w{v:Nat}(h:decTime c=some v):v=tVal c:=by
 unfold decTime at h;split at h
 . rename_i hc;cases h;unfold tVal;rw [if_neg (by omega)]
 cases h
variable {b:List UInt8}{n:Nat}
def q1y(hb:b.length<=1099511627776):(takeC (b.drop n)).length<=1099511627776:=by have:=q7E (b.drop n);rw [Ah] at this;omega
def z7S(b:List UInt8)(n:Nat)(w:n<=b.length)(u:b.length<=1099511627776){v:Int}(h:intP (b.drop n)= .ok (v,k)):PE Tryz.prog 70 [.ptr 0 0] [rdr b n] (.ret (.tup [(rI) v,rI 0])) [rdr b (n+k)]:=by obtain ⟨l,a,rfl⟩:=q6d h;have j:=q6s 131 2 b n w u _ _ (j3e (takeC (b.drop n)) (q1y u)) ⟨_,.inl rfl⟩;rw [if_pos l,if_pos (by rw [a];rfl),if_pos ⟨l,by rw [a];rfl⟩,<-z5x a] at j;refine q0a (Ac _) ?_;refine rQ fi70 ?_;refine eQ [0] (j) ?_;trivial
def z6g(b:List UInt8)(n:Nat)(y:n<=b.length)(w:b.length<=1099511627776)(h:intP (b.drop n)= .error e):PE Tryz.prog 70 [.ptr 0 0] [rdr b n] (.ret (.tup [rI 0,rI e])) [rdr b n]:=by
 have a:=q6s 131 2 b n y w _ _ (j3e (takeC (b.drop n)) (q1y w)) ⟨_,.inl rfl⟩;have l:PE Tryz.prog 130 [.ptr 0 0,.raw (.int .u8 (2:UInt8).toNat),.fn 131 [] []] [rdr b n] (.ret (.tup [rI 0,rI e])) [rdr b n]:=by
  rcases z1G h with ⟨j,u,rfl⟩ | ⟨j,rfl⟩
  . rw [if_pos j,if_neg (by rw [u];simp),if_neg (λq=>by rw [u] at q;simp at q)] at a;exact a
  rw [if_neg j,if_neg (λq=>j q.1)] at a;exact a
 refine q0a (Ac _) ?_;refine rQ fi70 ?_;refine eQ [0] (l) ?_;trivial
def z9R(b:List UInt8)(n:Nat)(w:n<=b.length)(u:b.length<=1099511627776){v:Nat}(h:timeP (b.drop n)= .ok (v,k)):PE Tryz.prog 75 [.ptr 0 0] [rdr b n] (.ret (.tup [(λv=>rI (v:Nat)) v,rI 0])) [rdr b (n+k)]:=by obtain ⟨l,a,rfl⟩:=q6d h;have j:=q6s 144 24 b n w u _ _ (z8q (takeC (b.drop n))) ⟨_,.inl rfl⟩;rw [if_pos l,if_pos (by rw [a];rfl),if_pos ⟨l,by rw [a];rfl⟩,<-z2w a] at j;refine q0a (Ac _) ?_;refine rQ fi75 ?_;refine eQ [0] (j) ?_;trivial
def j1E(b:List UInt8)(n:Nat)(y:n<=b.length)(w:b.length<=1099511627776)(h:timeP (b.drop n)= .error e):PE Tryz.prog 75 [.ptr 0 0] [rdr b n] (.ret (.tup [rI 0,rI e])) [rdr b n]:=by
 have a:=q6s 144 24 b n y w _ _ (z8q (takeC (b.drop n))) ⟨_,.inl rfl⟩;have l:PE Tryz.prog 130 [.ptr 0 0,.raw (.int .u8 (24:UInt8).toNat),.fn 144 [] []] [rdr b n] (.ret (.tup [rI 0,rI e])) [rdr b n]:=by
  rcases z1G h with ⟨j,u,rfl⟩ | ⟨j,rfl⟩
  . rw [if_pos j,if_neg (by rw [u];simp),if_neg (λq=>by rw [u] at q;simp at q)] at a;exact a
  rw [if_neg j,if_neg (λq=>j q.1)] at a;exact a
 refine q0a (Ac _) ?_;refine rQ fi75 ?_;refine eQ [0] (l) ?_;trivial
def z6x(b:List UInt8)(n:Nat)(w:n<=b.length)(l:b.length<=1099511627776){v:ByteArray}(h:strP (b.drop n)= .ok (v,k)):PE Tryz.prog 138 [.ptr 0 0] [rdr b n] (.ret (.tup [rS v,rI 0])) [rdr b (n+k)]:=by obtain ⟨j,u,rfl⟩:=q6d h;have a:=z3Q 187 27 b n w l _ _ (j2M (takeC (b.drop n)) (q1y l)) ⟨_,.inl rfl⟩;rw [if_pos j,if_pos rfl,if_pos ⟨j,rfl⟩] at a;cases u;refine q0a (Ac _) ?_;refine rQ fi138 ?_;refine eQ [0] (a) ?_;trivial
def z7z(b:List UInt8)(n:Nat)(y:n<=b.length)(u:b.length<=1099511627776)(h:strP (b.drop n)= .error e):PE Tryz.prog 138 [.ptr 0 0] [rdr b n] (.ret (.tup [.raw (.string ⟨#[]⟩),rI e])) [rdr b n]:=by
 have l:=z3Q 187 27 b n y u _ _ (j2M (takeC (b.drop n)) (q1y u)) ⟨_,.inl rfl⟩;have a:PE Tryz.prog 186 [.ptr 0 0,.raw (.int .u8 (27:UInt8).toNat),.fn 187 [] []] [rdr b n] (.ret (.tup [.raw (.string ⟨#[]⟩),rI e])) [rdr b n]:=by
  rcases z1G h with ⟨j,w,rfl⟩ | ⟨j,rfl⟩
  . cases w
  rw [if_neg j,if_neg (λq=>j q.1)] at l;exact l
 refine q0a (Ac _) ?_;refine rQ fi138 ?_;refine eQ [0] (a) ?_;trivial
def z7G(b:List UInt8)(n:Nat)(w:n<=b.length)(l:b.length<=1099511627776){v:List UInt8}(h:octP (b.drop n)= .ok (v,k)):PE Tryz.prog 74 [.ptr 0 0] [rdr b n] (.ret (.tup [.isl .u8 v,rI 0])) [rdr b (n+k)]:=by obtain ⟨j,u,rfl⟩:=q6d h;have a:=q8C 143 4 b n w l _ _ (j3a (takeC (b.drop n)) (q1y l)) ⟨.bool true,.inr ⟨_,rfl⟩⟩;rw [if_pos j,if_pos rfl,if_pos ⟨j,rfl⟩] at a;cases u;refine q0a (Ac _) ?_;refine rQ fi74 ?_;refine eQ [0] (a) ?_;trivial
def z7d(b:List UInt8)(n:Nat)(y:n<=b.length)(u:b.length<=1099511627776)(h:octP (b.drop n)= .error e):PE Tryz.prog 74 [.ptr 0 0] [rdr b n] (.ret (.tup [.isl .u8 [],rI e])) [rdr b n]:=by
 have l:=q8C 143 4 b n y u _ _ (j3a (takeC (b.drop n)) (q1y u)) ⟨.bool true,.inr ⟨_,rfl⟩⟩;have a:PE Tryz.prog 142 [.ptr 0 0,.raw (.int .u8 (4:UInt8).toNat),.fn 143 [] []] [rdr b n] (.ret (.tup [.isl .u8 [],rI e])) [rdr b n]:=by
  rcases z1G h with ⟨j,w,rfl⟩ | ⟨j,rfl⟩
  . cases w
  rw [if_neg j,if_neg (λq=>j q.1)] at l;exact l
 refine q0a (Ac _) ?_;refine rQ fi74 ?_;refine eQ [0] (a) ?_;trivial
theorem q9q(tag:UInt8)(b:List UInt8)(n:Nat)(j:n<=b.length)(l:b.length<=1099511627776)(h:takeE tag (b.drop n)=0):
 PE Tryz.prog 126 [.ptr 0 0,.raw (.int .u8 tag.toNat),.fn 127 [] []] [rdr b n] (.ret (.tup [.ptr 1 0,rI 0])) [rdr b (n+takeN (b.drop n)),rdr (takeC (b.drop n)) 0]:=by
 have a:=z1h tag b n j l;rw [if_pos h,if_pos h,h] at a;generalize takeC (b.drop n)=c at*;generalize takeN (b.drop n)=k at*;refine q0a (by simp) ?_;refine rQ fi126 ?_;refine eQ [0] (a) ?_;refine eQ [] (z3h c) ?_;trivial
theorem q9J(tag:UInt8)(b:List UInt8)(n:Nat)(l:n<=b.length)(j:b.length<=1099511627776)(h:takeE tag (b.drop n)≠0):
 PE Tryz.prog 126 [.ptr 0 0,.raw (.int .u8 tag.toNat),.fn 127 [] []] [rdr b n] (.ret (.tup [.raw (.pointer none),rI (takeE tag (b.drop n))])) [rdr b n]:=by
 have a:=z1h tag b n l j;rw [if_neg h,if_neg h] at a;generalize takeE tag (b.drop n)=e at*;refine q0a (by simp) ?_;refine rQ fi126 ?_;refine eQ [0] (a) ?_;exact ⟨λ_=>trivial,λh0=>absurd (by omega) h⟩
def q5s(b:List UInt8)(n:Nat)(a:n<=b.length)(j:b.length<=1099511627776)(h:takeE 48 (b.drop n)=0):
 PE Tryz.prog 66 [.ptr 0 0] [rdr b n] (.ret (.tup [.ptr 1 0,rI 0])) [rdr b (n+takeN (b.drop n)),rdr (takeC (b.drop n)) 0]:=by
 have l:=q9q 48 b n a j h;refine q0a (by simp) ?_;refine rQ fi66 ?_;refine eQ [0] (l) ?_;trivial
def q5Q(b:List UInt8)(n:Nat)(a:n<=b.length)(j:b.length<=1099511627776)(h:takeE 48 (b.drop n)≠0):
 PE Tryz.prog 66 [.ptr 0 0] [rdr b n] (.ret (.tup [.raw (.pointer none),rI (takeE 48 (b.drop n))])) [rdr b n]:=by
 have l:=q9J 48 b n a j h;refine q0a (by simp) ?_;refine rQ fi66 ?_;refine eQ [0] (l) ?_;trivial
variable {m:Nat}
def z5Z(hm:m<=30):IntKind.u8.wrap (IntKind.i64.wrap (160+ (m:Int)))=((tagB m).toNat:Int):=by rw [wrapi (by omega)];exact (q5G _).symm
def q7F:nextB m r=true ↔ ¬((r.length:Int)=0)/\((r.getD 0 Ty.u8.dflt).toNat:Int)=((tagB m).toNat:Int):=by
 unfold nextB;simp only [Ak,decide_eq_true_eq,ne_eq];constructor
 . rintro ⟨j,a⟩;exact ⟨by omega,by rw [show r.getD 0 Ty.u8.dflt=tagB m from a]⟩
 rintro ⟨j,a⟩;exact ⟨by omega,BB.1 (by exact_mod_cast a)⟩
def z9X(h:nextB m r=false)(a:¬((r.length:Int)=0)):¬((r.getD 0 Ty.u8.dflt).toNat:Int)=((tagB m).toNat:Int):=λj=>by rw [q7F.2 ⟨a,j⟩] at h;cases h
theorem q2O(m:Nat)(l:m<=30)(b:List UInt8)(n:Nat)(B:n<=b.length)(h:nextB m (b.drop n)=false):
 PE Tryz.prog 140 [.ptr 0 0,rI m] [rdr b n] (.ret (.tup [.raw (.pointer none),rB false,rI 0])) [rdr b n]:=by
 have u:=z1N b n B;have j:=z5Z l;have A:=z9X h;generalize b.drop n=r at*;refine q0a (by simp) ?_;refine rQ fi140 ?_;refine ⟨λ_=>⟨λa=>absurd a (by omega),λ_=> ?_⟩,λhneg=>by exfalso;omega⟩;refine q0i [0] (u) rfl (by decide) (by repeat first|exact trivial|exact rfl|refine And.intro ?_ ?_) rfl rfl ?_;simp only [afterO,Out.ren,SV.ren,mgA,sig,SObj.ren,SV.renL,List.set,List.map,Ad,j];refine gy1 j ?_;exact ⟨λy=>⟨by omega,λ_=>trivial,λw=>absurd w (A y)⟩,λ_=>trivial⟩
theorem q2K(m:Nat)(B:m<=30)(b:List UInt8)(n:Nat)(y:n<=b.length)(I:b.length<=1099511627776)(h:nextB m (b.drop n)=true)(F:takeE (tagB m) (b.drop n)=0):
 PE Tryz.prog 140 [.ptr 0 0,rI m] [rdr b n] (.ret (.tup [.ptr 1 0,rB true,rI 0])) [rdr b (n+takeN (b.drop n)),rdr (takeC (b.drop n)) 0]:=by
 have D:=z1N b n y;have A:=q9q (tagB m) b n y I F;have u:=z5Z B;obtain ⟨l,a⟩:=q7F.1 h;generalize takeC (b.drop n)=c at*;generalize takeN (b.drop n)=k at*;generalize b.drop n=r at*;refine q0a (by simp) ?_;refine rQ fi140 ?_;refine ⟨λ_=>⟨λj=>absurd j (by omega),λ_=> ?_⟩,λhneg=>by exfalso;omega⟩;refine q0i [0] (D) rfl (by decide) (by repeat first|exact trivial|exact rfl|refine And.intro ?_ ?_) rfl rfl ?_;simp only [afterO,Out.ren,SV.ren,mgA,sig,SObj.ren,SV.renL,List.set,List.map,Ad,u];refine gy1 u ?_;refine ⟨λw=>⟨by omega,λE=>absurd a E,λ_=> ?_⟩,λw=>absurd w l⟩;refine eQ [0] (A) ?_;trivial
theorem q2M(m:Nat)(D:m<=30)(b:List UInt8)(n:Nat)(A:n<=b.length)(I:b.length<=1099511627776)(h:nextB m (b.drop n)=true)(y:takeE (tagB m) (b.drop n)≠0):
 PE Tryz.prog 140 [.ptr 0 0,rI m] [rdr b n] (.ret (.tup [.raw (.pointer none),rB false,rI (takeE (tagB m) (b.drop n))])) [rdr b n]:=by
 have E:=z1N b n A;have B:=q9J (tagB m) b n A I y;have u:=z5Z D;obtain ⟨l,a⟩:=q7F.1 h;generalize takeE (tagB m) (b.drop n)=e at*;generalize b.drop n=r at*;refine q0a (by simp) ?_;refine rQ fi140 ?_;refine ⟨λ_=>⟨λj=>absurd j (by omega),λ_=> ?_⟩,λhneg=>by exfalso;omega⟩;refine q0i [0] (E) rfl (by decide) (by repeat first|exact trivial|exact rfl|refine And.intro ?_ ?_) rfl rfl ?_;simp only [afterO,Out.ren,SV.ren,mgA,sig,SObj.ren,SV.renL,List.set,List.map,Ad,u];refine gy1 u ?_;refine ⟨λw=>⟨by omega,λF=>absurd a F,λ_=> ?_⟩,λw=>absurd w l⟩;refine eQ [0] (B) ?_;exact λq=>y (by omega)
variable {p:PR α}
def q7w:(takeE tag r≠0/\inP tag p r= .error (takeE tag r))\/
 (takeE tag r=0/\∃e,p (takeC r)= .error e/\inP tag p r= .error e)\/
 (takeE tag r=0/\∃v m,p (takeC r)= .ok (v,m)/\m< (takeC r).length/\inP tag p r= .error 6)\/
 (takeE tag r=0/\∃v m,p (takeC r)= .ok (v,m)/\¬m< (takeC r).length/\inP tag p r= .ok (v,takeN r)):=by
 unfold inP allP;by_cases h:takeE tag r=0
 . right;rw [if_pos h];cases hp:p (takeC r) with
   |error e=>exact .inl ⟨h,e,rfl,rfl⟩
   |ok x=>
    obtain ⟨v,m⟩:=x;by_cases a:m< (takeC r).length
    . exact .inr (.inl ⟨h,v,m,rfl,a,by simp [a]⟩)
    exact .inr (.inr ⟨h,v,m,rfl,a,by simp [a]⟩)
 exact .inl ⟨h,by rw [if_neg h]⟩
def FitsP(p:PR α):Prop:=∀r v m,p r= .ok (v,m)->m<=r.length
def q4V:FitsP (inP tag p):=λr v m h=>by
 rcases q7w (tag:=tag) (p:=p) (r:=r) with ⟨_,e⟩ | ⟨_,_,_,e⟩ | ⟨_,_,_,_,_,e⟩ | ⟨a,_,_,_,_,e⟩ <;>rw [e] at h<;>cases h
 exact q3f a
def q4d{dec:List UInt8->Option α}:FitsP (rdP tag dec):=λ_ _ _ h=>j2K h
def q0Q:FitsP (needP n p):=λr v m h=>by
 unfold needP at h;split at h
 . exact q4V r v m h
 cases h
theorem q6k{dec:List UInt8->Option α}(h:rdP tag dec r= .error e):e≠0:=by
 rcases z1G h with ⟨_,_,rfl⟩ | ⟨a,rfl⟩
 . decide
 exact a
def tailP(xs:List α)(k:Nat):Except Nat (List α×Nat)->Except Nat (List α×Nat)
 |.ok (l,m)=>.ok (xs++l,k+m)
 |.error e=>.error e
variable {most:Nat}{xs:List α}
def q8B(hk:k<c.length)(hm:0<most)(a:p (c.drop k)= .ok (v,m)):tailP xs n (listP p most (c.drop k))=tailP (xs++ [v]) (n+m) (listP p (most-1) (c.drop (k+m))):=by
 obtain ⟨most,rfl⟩:∃q,most=q+1:=⟨most-1,by omega⟩
 simp only [listP];rw [if_neg (by rw [Ah];omega),a];simp only [Ca,AW];cases listP p most (c.drop (k+m)) with
 |error e=>rfl
 |ok y=>obtain ⟨l,q⟩:=y;simp [tailP];omega
theorem z5F(hk:k<c.length):tailP xs n (listP p 0 (c.drop k))= .error 6:=by simp only [listP];rw [if_neg (by rw [Ah];omega)];rfl
theorem q3v(hk:k<c.length)(hm:0<most)(a:p (c.drop k)= .error e):tailP xs n (listP p most (c.drop k))= .error e:=by
 obtain ⟨most,rfl⟩:∃q,most=q+1:=⟨most-1,by omega⟩
 simp only [listP];rw [if_neg (by rw [Ah];omega),a];rfl
def z1K(a:c.length<=k):tailP xs n (listP p most (c.drop k))= .ok (xs,n):=by have:c.drop k= []:=AU a;rw [this];cases most<;>simp [listP,tailP]
def z4w(x:Except Nat (List α×Nat)):tailP [] 0 x=x:=by
 cases x with
 |error e=>rfl
 |ok y=>obtain ⟨l,m⟩:=y;simp [tailP]
def shiftP(k:Nat):Except Nat (α×Nat)->Except Nat (α×Nat)
 |.ok (v,m)=>.ok (v,k+m)
 |.error e=>.error e
def q0X{β:Type}{f:α->PR β}(h:p r= .error e):bindP p f r= .error e:=by unfold bindP;rw [h]
theorem q1A{β:Type}{f:α->PR β}(h:p (b.drop n)= .ok (v,k)):bindP p f (b.drop n)=shiftP k (f v (b.drop (n+k))):=by
 unfold bindP;rw [h];simp only [AW];cases f v (b.drop (n+k)) with
 |error e=>rfl
 |ok y=>rfl
def q2u(a:FitsP p)(hn:n<=b.length)(h:p (b.drop n)= .ok (v,k)):n+k<=b.length:=by have:=a _ _ _ h;rw [Ah] at this;omega
def OkP(p:PR α)(Q:α->Prop):Prop:=∀r v m,r.length<=1099511627776->p r= .ok (v,m)->Q v
variable {Q:α->Prop}
def z7M{dec:List UInt8->Option α}(h:∀c v,c.length<=1099511627776->dec c=some v->Q v):OkP (rdP tag dec) Q:=λr v m l j=>by obtain ⟨_,a,_⟩:=q6d j;exact h _ v (Ao (q7E r) l) a
def z1R(h:OkP p Q):OkP (inP tag p) Q:=λr v m j a=>by
 rcases q7w (tag:=tag) (p:=p) (r:=r) with ⟨_,e⟩ | ⟨_,_,_,e⟩ | ⟨_,_,_,_,_,e⟩ | ⟨_,u,k,g,_,e⟩ <;>rw [e] at a<;>cases a
 exact h _ _ _ (Ao (q7E r) j) g
def q4L(h:OkP p Q):OkP (needP n p) Q:=λr v m j a=>by
 unfold needP at a;split at a
 . exact z1R h r v m j a
 cases a
def q5d{β:Type}{f:α->PR β}{Q1:α->Prop}{Q:β->Prop}(B:OkP p Q1)(D:∀v,Q1 v->OkP (f v) Q):OkP (bindP p f) Q:=λr v m E a=>by
 unfold bindP at a;cases A:p r with
 |error e=>rw [A] at a;cases a
 |ok y=>
  obtain ⟨u,k⟩:=y;rw [A] at a;simp only at a;cases j:f u (r.drop k) with
  |error e=>rw [j] at a;cases a
  |ok z=>obtain ⟨w,l⟩:=z;rw [j] at a;cases a;exact D u (B r u k E A) _ _ _ (by rw [Ah];omega) j
def z8b(h:Q v):OkP (retP v) Q:=λr u m _ a=>by cases a;exact h
def z3G{α:Type}{p:PR α}{Q:α->Prop}(B:OkP p Q):∀n,OkP (listP p n) λl=>l.length<=n/\∀x∈l,Q x
 |0,r,v,m,_,hx=>by
  simp only [listP] at hx;split at hx
  . cases hx;exact ⟨Ac _,by simp⟩
  cases hx
 |n+1,r,v,m,hr,hx=>by
  simp only [listP] at hx;split at hx
  . cases hx;exact ⟨by simp,by simp⟩
  cases A:p r with
  |error e=>rw [A] at hx;cases hx
  |ok y=>
   obtain ⟨u,k⟩:=y;rw [A] at hx;simp only at hx;cases j:listP p n (r.drop k) with
   |error e=>rw [j] at hx;cases hx
   |ok z=>
    obtain ⟨w,l⟩:=z;rw [j] at hx;cases hx;have D:=z3G B n _ _ _ (by rw [Ah];omega) j
    exact ⟨by simp;exact D.1,λx a=>by
     rcases Ba.1 a with rfl|E
     . exact B r _ k hr A
     exact D.2 x E⟩
def z0o:OkP p λ_=>True:=λ_ _ _ _ _=>trivial
def z6M:OkP strP λs=>s.size<=1099511627776:=z7M λc v j a=>by unfold decStr at a;cases a;show c.toArray.size<=_;simpa using j
def j8r(b:List UInt8)(a:b.length<=140737488355328):PE Tryz.prog 63 [.isl .u8 b] [] (.ret (.ptr 0 0)) [rdr b 0]:=by refine q0a (by simp) ?_;refine rQ fi63 ?_;refine cQ (q1C b a) ?_;refine eQ [] (z9y b) ?_;trivial
@[go_sem] abbrev errV(e:Int):SV:=.iface 33 (rI e)
def EffX(P:Program)(f:FuncId)(args:List SV)(b:List UInt8)(n:Nat)(res:α->SV):Except Nat (α×Nat)->Prop
 |.ok (v,k)=>PE P f args [rdr b n] (.ret (res v)) [rdr b (n+k)]
 |.error e=>PE P f args [rdr b n] (.pan (errV e)) [.dead]
variable {P:Program}{f:FuncId}{args:List SV}{res:α->SV}{x:Except Nat (α×Nat)}
def q0W(h:EffX P f args b n res x)(a:x= .ok (v,k)):PE P f args [rdr b n] (.ret (res v)) [rdr b (n+k)]:=by rw [a] at h;exact h
def q2d(h:EffX P f args b n res x)(a:x= .error e):PE P f args [rdr b n] (.pan (errV e)) [.dead]:=by rw [a] at h;exact h
theorem z0A(v:Value):PC Tryz.prog 190 [.raw v,rI 0] (.raw v):=by refine q0s rfl rfl ?_;refine rQ fi190 ?_;trivial
def z0Z(v:Value)(e:Nat)(a:e≠0):PE Tryz.prog 190 [.raw v,rI e] [] (.pan (errV e)) []:=by refine q0a (by simp) ?_;refine rQ fi190 ?_;exact ⟨λ_=>trivial,λh=>absurd (by omega) a⟩
theorem q6V(v:List UInt8):PC Tryz.prog 191 [.isl .u8 v,rI 0] (.isl .u8 v):=by refine q0s rfl rfl ?_;refine rQ fi191 ?_;trivial
def q8q(v:List UInt8)(e:Nat)(a:e≠0):PE Tryz.prog 191 [.isl .u8 v,rI e] [] (.pan (errV e)) []:=by refine q0a (by simp) ?_;refine rQ fi191 ?_;exact ⟨λ_=>trivial,λh=>absurd (by omega) a⟩
theorem q7a(v:Value):PC Tryz.prog 137 [.raw v,rI 0] (.raw v):=by refine q0s rfl rfl ?_;refine rQ fi137 ?_;trivial
def q5Y(v:Value)(e:Nat)(a:e≠0):PE Tryz.prog 137 [.raw v,rI e] [] (.pan (errV e)) []:=by refine q0a (by simp) ?_;refine rQ fi137 ?_;exact ⟨λ_=>trivial,λh=>absurd (by omega) a⟩
def q7l(b:List UInt8)(n:Nat):PE Tryz.prog 153 [.ptr 0 0,rI 0] [rdr b n] (.ret (.ptr 0 0)) [rdr b n]:=by refine q0a (by simp) ?_;refine rQ fi153 ?_;trivial
def q3H(e:Nat)(a:e≠0):PE Tryz.prog 153 [.raw (.pointer none),rI e] [] (.pan (errV e)) []:=by refine q0a (by simp) ?_;refine rQ fi153 ?_;exact ⟨λ_=>trivial,λh=>absurd (by omega) a⟩
def q7k(b:List UInt8)(n:Nat):PE Tryz.prog 135 [.ptr 0 0,rI 0] [rdr b n] (.ret (.ptr 0 0)) [rdr b n]:=by refine q0a (by simp) ?_;refine rQ fi135 ?_;trivial
def q6f(e:Nat)(a:e≠0):PE Tryz.prog 135 [.raw (.pointer none),rI e] [] (.pan (errV e)) []:=by refine q0a (by simp) ?_;refine rQ fi135 ?_;exact ⟨λ_=>trivial,λh=>absurd (by omega) a⟩
def z4T(b:List UInt8)(n:Nat)(hn:n=b.length):PE Tryz.prog 156 [.ptr 0 0] [rdr b n] (.ret (.tup [])) [rdr b n]:=by have a:=q2C b n (by omega);refine q0a (by simp) ?_;refine rQ fi156 ?_;refine eQ [0] (a) ?_;exact ⟨λq=>absurd q (by omega),λ_=>trivial⟩
def z4r(b:List UInt8)(n:Nat)(hn:n<b.length):PE Tryz.prog 156 [.ptr 0 0] [rdr b n] (.pan (errV 6)) [.dead]:=by have a:=q2C b n (by omega);refine q0a (by simp) ?_;refine rQ fi156 ?_;refine eQ [0] (a) ?_;exact ⟨λ_=>trivial,λq=>absurd (by omega) q⟩
theorem q1T(h:nextB n r=false):needP n p r= .error (if r.length=0 then 4 else 6):=by unfold needP;rw [h];rfl
theorem q1X(h:nextB n r=true):needP n p r=inP (tagB n) p r:=by unfold needP;rw [h];rfl
def closeP(l N:Nat):Except Nat (α×Nat)->Except Nat (α×Nat)
 |.ok (v,m)=>if m<l then .error 6 else .ok (v,N)
 |.error e=>.error e
def q2N(h:takeE tag r=0):inP tag p r=closeP (takeC r).length (takeN r) (p (takeC r)):=by
 unfold inP allP;rw [if_pos h];cases p (takeC r) with
 |error e=>rfl
 |ok x=>obtain ⟨v,m⟩:=x;simp only [closeP];by_cases a:m< (takeC r).length<;>simp [a]
def q3t(h:takeE tag r≠0):inP tag p r= .error (takeE tag r):=by unfold inP;rw [if_neg h]
theorem z7s(i:Nat)(B:i<=30)(b:List UInt8)(n:Nat)(y:n<=b.length)(A:b.length<=1099511627776):EffX Tryz.prog 154 [.ptr 0 0,rI i,.fn 70 [] []] b n (λv=>rI v) (needP i intP (b.drop n)):=by
 cases h:nextB i (b.drop n) with
 |false=>
  rw [q1T h,Ah];have j:=q2O i B b n y h;have E:=q2C b n y;generalize b.length-n=q at*;refine q0a (by simp) ?_;refine rQ fi154 ?_;refine eQ [0] (j) ?_;refine eQ [0] (E) ?_;by_cases D:q=0
  . simp [D]
  simp [D]
 |true=>
  rw [q1X h];by_cases u:takeE (tagB i) (b.drop n)=0
  . rw [q2N u];have j:=q2K i B b n y A h u;have F:=q1y (n:=n) A;generalize takeC (b.drop n)=c at*;generalize takeN (b.drop n)=N at*;cases w:intP c with
    |error e=>have l:=z6g c 0 (Ai _) F (by rw [Ap];exact w);refine q0a (by simp) ?_;refine rQ fi154 ?_;refine eQ [0] (j) ?_;refine eQ [1] (l) ?_;refine effP [] (z0Z (.int .i64 0) e (q6k w)) ?_;trivial
    |ok x=>
     obtain ⟨v,m⟩:=x;have I:=q4d _ _ _ w;have l:=z7S c 0 (Ai _) F (by rw [Ap];exact w);have E:=q2C c m I;rw [Ag] at l;simp only [closeP];by_cases a:m<c.length
     . rw [if_pos a];refine q0a (by simp) ?_;refine rQ fi154 ?_;refine eQ [0] (j) ?_;refine eQ [1] (l) ?_;refine cQ (z0A _) ?_;refine effP [1] (z4r c m a) ?_;rfl
     rw [if_neg a];refine q0a (by simp) ?_;refine rQ fi154 ?_;refine eQ [0] (j) ?_;refine eQ [1] (l) ?_;refine cQ (z0A _) ?_;refine eQ [1] (z4T c m (by omega)) ?_;trivial
  rw [q3t u];have j:=q2M i B b n y A h u;generalize takeE (tagB i) (b.drop n)=e at*;refine q0a (by simp) ?_;refine rQ fi154 ?_;refine eQ [0] (j) ?_;exact ⟨λ_=>trivial,λq=>absurd (by omega) u⟩
theorem j3d(i:Nat)(B:i<=30)(b:List UInt8)(n:Nat)(y:n<=b.length)(A:b.length<=1099511627776):EffX Tryz.prog 155 [.ptr 0 0,rI i,.fn 74 [] []] b n (λv=>.isl .u8 v) (needP i octP (b.drop n)):=by
 cases h:nextB i (b.drop n) with
 |false=>
  rw [q1T h,Ah];have j:=q2O i B b n y h;have E:=q2C b n y;generalize b.length-n=q at*;refine q0a (by simp) ?_;refine rQ fi155 ?_;refine eQ [0] (j) ?_;refine eQ [0] (E) ?_;by_cases D:q=0
  . simp [D]
  simp [D]
 |true=>
  rw [q1X h];by_cases u:takeE (tagB i) (b.drop n)=0
  . rw [q2N u];have j:=q2K i B b n y A h u;have F:=q1y (n:=n) A;generalize takeC (b.drop n)=c at*;generalize takeN (b.drop n)=N at*;cases w:octP c with
    |error e=>have l:=z7d c 0 (Ai _) F (by rw [Ap];exact w);refine q0a (by simp) ?_;refine rQ fi155 ?_;refine eQ [0] (j) ?_;refine eQ [1] (l) ?_;refine effP [] (q8q [] e (q6k w)) ?_;trivial
    |ok x=>
     obtain ⟨v,m⟩:=x;have I:=q4d _ _ _ w;have l:=z7G c 0 (Ai _) F (by rw [Ap];exact w);have E:=q2C c m I;rw [Ag] at l;simp only [closeP];by_cases a:m<c.length
     . rw [if_pos a];refine q0a (by simp) ?_;refine rQ fi155 ?_;refine eQ [0] (j) ?_;refine eQ [1] (l) ?_;refine cQ (q6V _) ?_;refine effP [1] (z4r c m a) ?_;rfl
     rw [if_neg a];refine q0a (by simp) ?_;refine rQ fi155 ?_;refine eQ [0] (j) ?_;refine eQ [1] (l) ?_;refine cQ (q6V _) ?_;refine eQ [1] (z4T c m (by omega)) ?_;trivial
  rw [q3t u];have j:=q2M i B b n y A h u;generalize takeE (tagB i) (b.drop n)=e at*;refine q0a (by simp) ?_;refine rQ fi155 ?_;refine eQ [0] (j) ?_;exact ⟨λ_=>trivial,λq=>absurd (by omega) u⟩
theorem j7u(i:Nat)(D:i<=30)(b:List UInt8)(n:Nat)(A:n<=b.length)(B:b.length<=1099511627776):EffX Tryz.prog 139 [.ptr 0 0,rI i,.fn 138 [] []] b n (λv=>rS v) (needP i strP (b.drop n)):=by
 cases h:nextB i (b.drop n) with
 |false=>
  rw [q1T h,Ah];have a:=q2O i D b n A h;have w:=q2C b n A;generalize b.length-n=q at*;refine q0a (by simp) ?_;refine rQ fi139 ?_;refine eQ [0] (a) ?_;refine eQ [0] (w) ?_;by_cases E:q=0
  . simp [E]
  simp [E]
 |true=>
  rw [q1X h];by_cases l:takeE (tagB i) (b.drop n)=0
  . rw [q2N l];have a:=q2K i D b n A B h l;have F:=q1y (n:=n) B;generalize takeC (b.drop n)=c at*;generalize takeN (b.drop n)=N at*;cases y:strP c with
    |error e=>have j:=z7z c 0 (Ai _) F (by rw [Ap];exact y);refine q0a (by simp) ?_;refine rQ fi139 ?_;refine eQ [0] (a) ?_;refine eQ [1] (j) ?_;refine effP [] (q5Y (.string ⟨#[]⟩) e (q6k y)) ?_;trivial
    |ok x=>
     obtain ⟨v,m⟩:=x;have I:=q4d _ _ _ y;have j:=z6x c 0 (Ai _) F (by rw [Ap];exact y);have w:=q2C c m I;rw [Ag] at j;simp only [closeP];by_cases u:m<c.length
     . rw [if_pos u];refine q0a (by simp) ?_;refine rQ fi139 ?_;refine eQ [0] (a) ?_;refine eQ [1] (j) ?_;refine cQ (q7a _) ?_;refine eQ [1] (w) ?_;exact ⟨λ_=>rfl,λq=>absurd (by omega) q⟩
     rw [if_neg u];refine q0a (by simp) ?_;refine rQ fi139 ?_;refine eQ [0] (a) ?_;refine eQ [1] (j) ?_;refine cQ (q7a _) ?_;refine eQ [1] (w) ?_;exact ⟨λq=>absurd q (by omega),λ_=>trivial⟩
  rw [q3t l];have a:=q2M i D b n A B h l;generalize takeE (tagB i) (b.drop n)=e at*;refine q0a (by simp) ?_;refine rQ fi139 ?_;refine eQ [0] (a) ?_;exact ⟨λ_=>trivial,λq=>absurd (by omega) l⟩
def zO(res:α->SV):Except Nat (α×Nat)->Out
 |.ok (v,_)=>.ret (res v)
 |.error e=>.pan (errV e)
def zH(b:List UInt8)(n m:Nat):Except Nat (α×Nat)->List SObj
 |.ok (_,k)=>[rdr b (n+k)]
 |.error _=>[rdr b m]
attribute [go_sem] zO zH
def EffZ(P:Program)(f:FuncId)(args:List SV)(b:List UInt8)(n m:Nat)(res:α->SV)(x:Except Nat (α×Nat)):Prop:=PE P f args [rdr b n] (zO res x) (zH b n m x)
def q6P(h:VC P f args [rdr b n] (SealO (zO res x) (zH b n m x))):EffZ P f args b n m res x:=by
 cases x with
 |error e=>exact q0a (by simp [zH]) h
 |ok y=>exact q0a (by simp [zH]) h
def z3i(h:EffZ P f args b n m res x)(a:x= .ok (v,k)):PE P f args [rdr b n] (.ret (res v)) [rdr b (n+k)]:=by rw [a] at h;exact h
def z2c(h:EffZ P f args b n m res x)(a:x= .error e):PE P f args [rdr b n] (.pan (errV e)) [rdr b m]:=by rw [a] at h;exact h
def posX(b:List UInt8)(n:Nat):Nat:=if takeE 48 (b.drop n)=0 then n+takeN (b.drop n) else n
def j2Y(h:takeE 48 (b.drop n)=0):posX b n=n+takeN (b.drop n):=if_pos h
def j2P(h:takeE 48 (b.drop n)≠0):posX b n=n:=if_neg h
def tripIn:PR Key:=bindP (needP 0 intP) λa=>bindP (needP 1 intP) λk=>bindP (needP 2 octP) λc=>retP ((a,k,c):Key)
def keyP:PR Key:=inP 48 tripIn
def q6D{β:Type}{f:α->PR β}(h:p b= .ok (v,k)):bindP p f b=shiftP k (f v (b.drop k)):=by have:=q1A (f:=f) (b:=b) (n:=0) (by rw [Ap];exact h);rwa [Ap,Ag] at this
theorem z8A(b:List UInt8)(n:Nat)(J:n<=b.length)(w:b.length<=1099511627776):
 EffZ Tryz.prog 149 [.ptr 0 0] b n (posX b n) (λv:Key=>.tup [rI v.1,rI v.2.1,.isl .u8 v.2.2]) (keyP (b.drop n)):=by
 unfold keyP;by_cases h:takeE 48 (b.drop n)=0
 . have y:=q5s b n J w h;have D:=q1y (n:=n) w;rw [q2N h,j2Y h];generalize takeC (b.drop n)=c at*;generalize takeN (b.drop n)=N at*;unfold tripIn;refine q6P ?_;refine rQ fi149 ?_;refine eQ [0] (y) ?_;refine eQ [1] (q7l c 0) ?_;have B:=z7s 0 (by omega) c 0 (Ai _) D;rw [Ap] at B;cases j:needP 0 intP c with
   |error e=>rw [q0X j];have e1':=q2d B j;simp only [closeP];refine effP [1] (e1') ?_;trivial
   |ok x=>
    obtain ⟨v1,u⟩:=x;rw [q6D j];have e1':=q0W B j;have F:=q0Q _ _ _ j;rw [Ag] at e1';refine eQ [1] (e1') ?_;have I:=z7s 1 (by omega) c _ F D;cases a:needP 1 intP (c.drop u) with
    |error e=>rw [q0X a];have e2':=q2d I a;simp only [shiftP,closeP];refine effP [1] (e2') ?_;trivial
    |ok x=>
     obtain ⟨v2,A⟩:=x;rw [q1A a];have e2':=q0W I a;have L:=q2u q0Q F a;refine eQ [1] (e2') ?_;have O:=j3d 2 (by omega) c _ L D;cases l:needP 2 octP (c.drop (u+A)) with
     |error e=>rw [q0X l];have e3':=q2d O l;simp only [shiftP,closeP];refine effP [1] (e3') ?_;trivial
     |ok x=>
      obtain ⟨v3,E⟩:=x;rw [q1A l];have e3':=q0W O l;have f3:=q2u q0Q L l;simp only [shiftP,retP,closeP];refine eQ [1] (e3') ?_;by_cases R:u+A+E<c.length
      . rw [if_pos (by omega)];refine effP [1] (z4r c _ R) ?_;rfl
      rw [if_neg (by omega)];refine eQ [1] (z4T c (u+A+E) (by omega)) ?_;trivial
 have y:=q5Q b n J w h;rw [q3t h,j2P h];generalize takeE 48 (b.drop n)=e at*;refine q6P ?_;refine rQ fi149 ?_;refine eQ [0] (y) ?_;refine effP [] (q3H e h) ?_;trivial
theorem j6H(b:List UInt8)(n:Nat)(j:n<=b.length)(l:b.length<=1099511627776):
 EffZ Tryz.prog 148 [.ptr 0 0] b n (posX b n) (λv:Key=>.agg (KeyT.cells v)) (keyP (b.drop n)):=by
 have a:=z8A b n j l;refine q6P ?_;generalize keyP (b.drop n)=X at*;cases X with
 |error e=>have ht':=z2c a rfl;refine rQ fi148 ?_;refine effP [0] (ht') ?_;trivial
 |ok x=>obtain ⟨v,k⟩:=x;have ht':=z3i a rfl;refine rQ fi148 ?_;refine eQ [0] (ht') ?_;trivial
def flat_len{α:Type}(f:α->List UInt8)(B:Nat):∀l:List α,(∀x∈l,(f x).length<=B)->(l.map f).flatten.length<=B*l.length
 | [],_=>by simp
 |x :: l,h=>by have h1:=h x (by simp);have h2:=flat_len f B l λy a=>h y (by simp [a]);simp only [Az,A6,Ab,AB,Nat.mul_add,AO];omega
def atP(p:PR α)(l:List UInt8):PR α:=λ_=>match p l with
 |.ok (x,_)=>.ok (x,0)
 |.error e=>.error e
def strsP(l:List UInt8):PR (List ByteArray):=atP (listP strP l.length) l
def nameIn:PR Prin:=bindP (needP 0 (rdP 48 decOct)) λl=>bindP (strsP l) λxs=>bindP (needP 1 strP) λt=>retP ((xs,t):Prin)
def chkP(q:α->Bool):Except Nat (α×Nat)->Except Nat (α×Nat)
 |.ok (v,k)=>if q v=true then .ok (v,k) else .error 6
 |.error e=>.error e
def nameP:PR Prin:=λr=>chkP vPrin (inP 48 nameIn r)
def z9Q{p:Prin}(h:vPrin p=true):p.1.length<=4/\(∀x∈p.1,x.size<=32)/\p.2.size<=32:=by simp only [vPrin,Ak,decide_eq_true_eq,z8z,szB,q2I] at h;refine ⟨by omega,λx l=> ?_,by omega⟩;obtain ⟨j,a,rfl⟩:=AT l;have:=h.2 j a;rw [j3u a] at this;simp only [vPart,szB,Ak,decide_eq_true_eq] at this;omega
end Go.Proofs.YthbcodbcndiapaaGreatDoor
namespace Go.Sx
open Go

variable {P:Program} {AQ:Ex->List SV->List SObj->Prop} {k0:Nat} {k:List IT} {t:List SV} {H:List SObj}

end Go.Sx
namespace Go.Proofs.YthbcodbcndiapaaGreatDoor
open Go Go.Sx Go.Proofs
set_option maxRecDepth 100000
set_option maxHeartbeats 4000000
abbrev PreT:Ty:=.prod I64 (.slice .u8)
abbrev Pre:=PreT.den
def mIn(lo hi v:Int):Bool:=decide (lo<=v) && decide (v<=hi)
def vTime(t:Int):Bool:=mIn 0 1099511627776 t
def j7d(n:Int)(b:List UInt8):PC Tryz.prog 41 [rI n,.isl .u8 b] (.isl .u8 (wrapS 96 n b)):=by refine q0l rfl rfl ?_;refine rQ fi41 ?_;refine cQ (z1U 96 n b (by omega)) ?_;trivial
def datS(d:Pre):List UInt8:=fieldsS [intS d.1,elemS 4 [d.2]]
def dataS(l:List Pre):List UInt8:=if l.length<=16 then wholeS (mapN (t:=PreT) datS l l.length) else []
def j7L(l:List Pre):PC Tryz.prog 38 [.isl PreT l] (.isl .u8 (dataS l)):=by
 refine q0l rfl rfl ?_;refine rQ fi38 ?_;refine ⟨λh=> ?_,λh=> ?_⟩
 . unfold dataS;rw [if_neg (by omega)]
 have y:l.length<=16:=by omega
 refine q5O 3 (.slice .u8) (mapN (t:=PreT) datS l) (λi=>[(11,rI i)]) l.length (λ_=>True) rfl (by simp) (by simp [mapN]) rfl (λi=>rfl) ?_ λi A _=> ?_
 . with_reducible refine sxE ?_;trivial
 have u:=wsx i (by omega);have hln:=j0t (t:=PreT) (w:=datS) A;refine gQ ?_;refine ⟨λa=>⟨⟨by omega,a⟩,q0g (q2B _) ?_⟩,λhge=> ?_⟩
 . refine gQ ?_;refine cR (z0s _) ?_;refine q1G 2 (by decide) ?_;with_reducible refine sxE ?_
   refine cR (z4x _ (by simp)) ?_;have j:=z8J (t:=PreT) (w:=datS) a;refine ⟨⟨by omega,by omega⟩,q3g [_,_,_,_] [] a trivial (by rw [j];rfl) ?_⟩;with_reducible refine sx3 u j ?_;trivial
 obtain rfl:i=l.length:=by omega
 refine q0F 0 ?_;with_reducible refine sxE ?_
 refine ⟨by omega,Ac _,?_⟩;rw [Aa (Ac _)];refine cQ (z6j _ (by omega)) ?_;unfold dataS;rw [if_pos y]
variable {α:Type}
def ErrP(p:PR α):Prop:=∀r e,p r= .error e->e≠0
variable {tag:UInt8}
def q3J{dec:List UInt8->Option α}:ErrP (rdP tag dec):=λ_ _ h=>q6k h
variable {p:PR α}
def q7X(j:ErrP p):ErrP (inP tag p):=λr e h=>by
 rcases q7w (tag:=tag) (p:=p) (r:=r) with ⟨u,a⟩ | ⟨_,e1,l,a⟩ | ⟨_,_,_,_,_,a⟩ | ⟨_,_,_,_,_,a⟩ <;>rw [a] at h<;>cases h
 . exact u
 . exact j _ _ l
 decide
variable {n:Nat}
def q2z(j:ErrP p):ErrP (needP n p):=λr e h=>by
 cases a:nextB n r with
 |false=>rw [q1T a] at h;split at h<;>cases h<;>decide
 |true=>rw [q1X a] at h;exact q7X j r e h
variable {β:Type}
def q2b{f:α->PR β}(A:ErrP p)(B:∀v,ErrP (f v)):ErrP (bindP p f):=λr e h=>by
 unfold bindP at h;cases j:p r with
 |error e1=>rw [j] at h;cases h;exact A r _ j
 |ok y=>
  obtain ⟨u,k⟩:=y;rw [j] at h;simp only at h;cases a:f u (r.drop k) with
  |error e2=>rw [a] at h;cases h;exact B u _ _ a
  |ok z=>obtain ⟨w,l⟩:=z;rw [a] at h;cases h
def q9b{v:α}:ErrP (retP v):=λ_ _ h=>by cases h
def j6b:ErrP keyP:=q7X (q2b (q2z q3J) λ_=>q2b (q2z q3J) λ_=>q2b (q2z q3J) λ_=>q9b)
def EffR(P:Program)(f:FuncId)(args:List SV)(b:List UInt8)(n:Nat)(res:α->SV)(z:SV):Except Nat (α×Nat)->Prop
 |.ok (v,k)=>PE P f args [rdr b n] (.ret (.tup [res v,rI 0])) [rdr b (n+k)]
 |.error e=>PE P f args [rdr b n] (.ret (.tup [z,rI e])) [rdr b n]
variable {P:Program}{f:FuncId}{args:List SV}{b:List UInt8}{res:α->SV}{z:SV}{x:Except Nat (α×Nat)}
def q3G{v:α}{k:Nat}(h:EffR P f args b n res z x)(a:x= .ok (v,k)):PE P f args [rdr b n] (.ret (.tup [res v,rI 0])) [rdr b (n+k)]:=by rw [a] at h;exact h
def q3D{e:Nat}(h:EffR P f args b n res z x)(a:x= .error e):PE P f args [rdr b n] (.ret (.tup [z,rI e])) [rdr b n]:=by rw [a] at h;exact h
abbrev zKey:SV:=.agg [rI 0,rI 0,.isl .u8 []]
def j5U(b:List UInt8)(n m e:Nat)(u a j l:TypeId)(y:Value)(K:List SObj->Prop)
 (h:∀G,K ([rdr b n,.cells u [.ptr 0 0],.cells a [rI 0,rI 0,.raw (.slice none 0 0)],.cells j [rI e],.cells l [rI n]]++G)):
 DCall Tryz.prog 188 [.ptr 4 0,.ptr 1 0,.ptr 2 0,.ptr 3 0] (some (errV e)) [rdr b m,.cells u [.ptr 0 0],.cells a [rI 0,rI 0,.raw (.slice none 0 0)],.cells j [.raw y],.cells l [rI n]] K:=by
 refine j4d fi188 ?_;refine uQ 16 _ ?_;with_reducible refine sxE ?_
 refine q1l [999999,1,4,5] mixed ?_;refine uQ 600 _ ?_;simp (maxSteps:=3000000) only [List.getElem?_nil,go_sem,↓zA,↓reduceIte,↓reduceDIte] <;>try simp only [zB]
 exact h _
def j3D(H:List SObj)(K:List SObj->Prop)(h:∀G,K (H++G)):DCall Tryz.prog 188 [.ptr 4 0,.ptr 1 0,.ptr 2 0,.ptr 3 0] none H K:=by refine recE mixed fi188 ?_;simpa using h []
theorem j7A(b:List UInt8)(n:Nat)(j:n<=b.length)(l:b.length<=1099511627776):
 EffR Tryz.prog 147 [.ptr 0 0,.fn 148 [] []] b n (λv:Key=>.agg (KeyT.cells v)) zKey (keyP (b.drop n)):=by
 have a:=j6H b n j l;generalize keyP (b.drop n)=X at*;cases X with
 |error e=>have hk':=z2c a rfl;refine q0a (by simp) ?_;refine defE mixed fi147 ?_;refine gQ ?_;refine effP [0] (hk') ?_;refine ⟨by simp,j5U b n _ e _ _ _ _ _ _ λG=> ?_⟩;with_reducible refine sxE ?_;trivial
 |ok x=>obtain ⟨v,k⟩:=x;have hk':=z3i a rfl;refine q0a (by simp) ?_;refine defE mixed fi147 ?_;refine gQ ?_;refine eQ [0] (hk') ?_;refine j3D _ _ λG=> ?_;with_reducible refine sxE ?_;trivial
theorem j5Q(b:List UInt8)(n:Nat)(j:n<=b.length)(l:b.length<=1099511627776):
 EffR Tryz.prog 77 [.ptr 0 0] b n (λv:Key=>.agg (KeyT.cells v)) zKey (keyP (b.drop n)):=by
 have a:=j7A b n j l;generalize keyP (b.drop n)=X at*;cases X with
 |error e=>have hk':=q3D a rfl;refine q0a (by simp) ?_;refine rQ fi77 ?_;refine eQ [0] (hk') ?_;trivial
 |ok x=>obtain ⟨v,k⟩:=x;have hk':=q3G a rfl;refine q0a (by simp) ?_;refine rQ fi77 ?_;refine eQ [0] (hk') ?_;trivial
def FR(i:Nat)(b:List UInt8)(n:Nat):Except Nat (List UInt8×Nat)->Prop
 |.ok (l,k)=>PE Tryz.prog 136 [.ptr 0 0,rI i,.fn 66 [] []] [rdr b n] (.ret (.ptr 2 0)) [rdr b (n+k),.dead,rdr l 0]
 |.error e=>PE Tryz.prog 136 [.ptr 0 0,rI i,.fn 66 [] []] [rdr b n] (.pan (errV e)) [.dead]
theorem j6T(i:Nat)(E:i<=30)(b:List UInt8)(n:Nat)(B:n<=b.length)(D:b.length<=1099511627776):FR i b n (needP i (rdP 48 decOct) (b.drop n)):=by
 cases h:nextB i (b.drop n) with
 |false=>
  rw [q1T h,Ah];have a:=q2O i E b n B h;have A:=q2C b n B;generalize b.length-n=q at*;refine q0a (by simp) ?_;refine rQ fi136 ?_;refine eQ [0] (a) ?_;refine eQ [0] (A) ?_;by_cases I:q=0
  . simp [I]
  simp [I]
 |true=>
  rw [q1X h];by_cases w:takeE (tagB i) (b.drop n)=0
  . rw [q2N w];have a:=q2K i E b n B D h w;have J:=q1y (n:=n) D;generalize takeC (b.drop n)=c at*;generalize takeN (b.drop n)=N at*;by_cases j:takeE 48 c=0
    . have F:rdP 48 decOct c= .ok (takeC c,takeN c):=by unfold rdP;rw [if_pos j];rfl
      rw [F];have u:=q5s c 0 (Ai _) J (by rw [Ap];exact j);rw [Ap,Ag] at u;have L:=q3f j;generalize takeC c=l at*;generalize takeN c=m at*;have A:=q2C c m L;simp only [closeP];by_cases y:m<c.length
      . rw [if_pos y];refine q0a (by simp) ?_;refine rQ fi136 ?_;refine eQ [0] (a) ?_;refine eQ [1] (u) ?_;refine eQ [2] (q7k l 0) ?_;refine eQ [1] (A) ?_;exact ⟨λ_=>rfl,λq=>absurd (by omega) q⟩
      rw [if_neg y];refine q0a (by simp) ?_;refine rQ fi136 ?_;refine eQ [0] (a) ?_;refine eQ [1] (u) ?_;refine eQ [2] (q7k l 0) ?_;refine eQ [1] (A) ?_;exact ⟨λq=>absurd q (by omega),λ_=>trivial⟩
    have F:rdP 48 decOct c= .error (takeE 48 c):=by unfold rdP;rw [if_neg j]
    rw [F];have u:=q5Q c 0 (Ai _) J (by rw [Ap];exact j);rw [Ap] at u;generalize takeE 48 c=e at*;refine q0a (by simp) ?_;refine rQ fi136 ?_;refine eQ [0] (a) ?_;refine eQ [1] (u) ?_;refine effP [] (q6f e j) ?_;trivial
  rw [q3t w];have a:=q2M i E b n B D h w;generalize takeE (tagB i) (b.drop n)=e at*;refine q0a (by simp) ?_;refine rQ fi136 ?_;refine eQ [0] (a) ?_;exact ⟨λ_=>trivial,λq=>absurd (by omega) w⟩
def z6V(b:List UInt8)(n:Nat):PE Tryz.prog 133 [.ptr 0 0] [rdr b n] (.ret (.ptr 1 0)) [rdr b n,rdr b n]:=by refine q0a (by simp) ?_;refine rQ fi133 ?_;trivial
def q5v(b:List UInt8)(n m e:Nat)(u l a j:TypeId)(x y:SV)(z:Value)(R:List SObj)(K:List SObj->Prop)
 (h:K ([rdr b n,.cells u [.ptr 0 0],.cells l [.raw (.slice none 0 0),rS ⟨#[]⟩],.cells a [rI e],rdr b n,.cells j [.ptr 4 0]]++R)):
 DCall Tryz.prog 134 [.ptr 5 0,.ptr 1 0,.ptr 2 0,.ptr 3 0] (some (errV e)) ([rdr b m,.cells u [.ptr 0 0],.cells l [x,y],.cells a [.raw z],rdr b n,.cells j [.ptr 4 0]]++R) K:=by
 refine j4d fi134 ?_;refine uQ 13 _ ?_;with_reducible refine sxaE ?_
 refine q1l [1,4,5] mixed ?_;refine aQ ?_;exact h
abbrev zPrin:SV:=.agg [.isl .str [],rS ⟨#[]⟩]
def rO(res:α->SV)(z:SV):Except Nat (α×Nat)->Out
 |.ok (v,_)=>.ret (.tup [res v,rI 0])
 |.error e=>.ret (.tup [z,rI e])
def rH(b:List UInt8)(n:Nat):Except Nat (α×Nat)->List SObj
 |.ok (_,k)=>[rdr b (n+k)]
 |.error _=>[rdr b n]
attribute [go_sem] rO rH
def j6w(h:VC P f args [rdr b n] (SealO (rO res z x) (rH b n x))):EffR P f args b n res z x:=by
 cases x with
 |error e=>exact q0a (by simp [rH]) h
 |ok y=>exact q0a (by simp [rH]) h
theorem j5Z(b:List UInt8)(n:Nat)(l:n<=b.length)(u:b.length<=1099511627776)(h:takeE 48 (b.drop n)≠0):
 EffR Tryz.prog 72 [.ptr 0 0] b n (λp:Prin=>.agg (PrinT.cells p)) zPrin (nameP (b.drop n)):=by
 have j:=q5Q b n l u h;have a:nameP (b.drop n)= .error (takeE 48 (b.drop n)):=by unfold nameP;rw [q3t h];rfl
 rw [a];clear a;generalize takeE 48 (b.drop n)=e at*;refine q0a (by simp) ?_;refine defE mixed fi72 ?_;refine eQ [0] (z6V b n) ?_;refine gQ ?_;refine eQ [0] (j) ?_;refine effP [] (q6f e h) ?_;refine ⟨by simp,q5v b n n e _ _ _ _ _ _ _ [] _ ?_⟩;with_reducible refine sxE ?_;trivial
variable {f:List ByteArray->PR β}
def j1U{l r:List UInt8}{e:Nat}(h:listP strP l.length l= .error e):bindP (strsP l) f r= .error e:=by unfold bindP strsP atP;rw [h]
theorem j1P{l r:List UInt8}{xs:List ByteArray}{m:Nat}(h:listP strP l.length l= .ok (xs,m)):bindP (strsP l) f r=shiftP 0 (f xs r):=by
 unfold bindP strsP atP;rw [h];simp only [Ap];cases f xs r with
 |error e=>rfl
 |ok y=>rfl
def j2p{j k:Nat}:shiftP j (shiftP k x)=shiftP (j+k) x:=by
 cases x with
 |error e=>rfl
 |ok y=>obtain ⟨u,m⟩:=y;simp only [shiftP,Au]
def j3E(H:List SObj)(K:List SObj->Prop)(h:∀G,K (H++G)):DCall Tryz.prog 134 [.ptr 5 0,.ptr 1 0,.ptr 2 0,.ptr 3 0] none H K:=by refine recE mixed fi134 ?_;simpa using h []
theorem j5J(b:List UInt8)(n:Nat)(hn:n<=b.length)(hb:b.length<=1099511627776)(h:takeE 48 (b.drop n)=0):
 EffR Tryz.prog 72 [.ptr 0 0] b n (λp:Prin=>.agg (PrinT.cells p)) zPrin (nameP (b.drop n)):=by
 have hs:=q5s b n hn hb h;have U:=q1y (n:=n) hb;have j:nameP (b.drop n)=chkP vPrin (closeP (takeC (b.drop n)).length (takeN (b.drop n)) (nameIn (takeC (b.drop n)))):=by unfold nameP;rw [q2N h]
 generalize nameP (b.drop n)=Y at*;generalize takeC (b.drop n)=c at*;generalize takeN (b.drop n)=N at*;refine j6w ?_;unfold nameIn at j;have J:=j6T 0 (by omega) c 0 (Ai _) U;rw [Ap] at J;refine defE mixed fi72 ?_;refine eQ [0] (z6V b n) ?_;refine gQ ?_;refine eQ [0] (hs) ?_;refine eQ [6] (q7k c 0) ?_;cases I:needP 0 (rdP 48 decOct) c with
 |error e=>rw [q0X I] at j;subst j;rw [I] at J;have A:PE Tryz.prog 136 [.ptr 0 0,rI (0:Nat),.fn 66 [] []] [rdr c 0] (.pan (errV e)) [.dead]:=J;simp only [closeP,chkP];refine effP [6] (A) ?_;refine ⟨by simp,q5v b n _ e _ _ _ _ _ _ _ [_] _ ?_⟩;with_reducible refine sxE ?_;trivial
 |ok x=>
  obtain ⟨l,k⟩:=x;rw [q6D I] at j;have hk:=q0Q _ _ _ I;rw [I] at J;have A:PE Tryz.prog 136 [.ptr 0 0,rI (0:Nat),.fn 66 [] []] [rdr c 0] (.ret (.ptr 2 0)) [rdr c (0+k),.dead,rdr l 0]:=J;rw [Ag] at A;refine eQ [6] (A) ?_;have V:l.length<=1099511627776:=(q4L (z7M (Q:=λv:List UInt8=>v.length<=1099511627776) λc v U hd=>by unfold decOct at hd;cases hd;exact U)) c l k U I;generalize Z:listP strP l.length l=X;refine q3Z 2 0 .str rfl rfl rfl ?_;with_reducible refine sxE ?_
  refine q0p (ι:=Nat×List ByteArray×List SObj) (λs=>[]) (λs=>[rdr b (n+N),.cells 82 [.ptr 0 0],.cells 24 [.bld (s.2.2.length+9) .str s.2.1.length,rS ⟨#[]⟩],.cells 33 [rI 0],rdr b n,.cells 82 [.ptr 4 0],rdr c k,.dead,rdr l s.1]++s.2.2++ [.row .str s.2.1]) (λs=>l.length-s.1) (λs=>s.2.1.length<=s.1/\s.1<=l.length/\(∀x∈s.2.1,x.size<=1099511627776)/\X=tailP s.2.1 s.1 (listP strP (l.length-s.2.1.length) (l.drop s.1))) (0,[],[]) ⟨Ac _,Ai _,by simp,?_⟩ rfl ?_ ?_
  . rw [Ap,CR,Cv,z4w];exact Z.symm
  . with_reducible refine sxE ?_;trivial
  rintro ⟨m,xs,G⟩ ⟨i1,W,i4,O⟩;dsimp only at i1 W O i4;have E:=q2C l m W;refine aQ ?_;refine q0i [8] E rfl (by decide) ⟨rfl,rfl,trivial⟩ rfl rfl ?_;simp only [afterO,Out.ren,SV.ren,mgA,sig,SObj.ren,SV.renL,Ay,Ar,List.append_assoc,A0,AY,List.set,List.map,Ad];refine uQ 5 _ ?_;with_reducible refine sxaE ?_
  refine ⟨λac=> ?_,λac=> ?_⟩
  . have R:m<l.length:=by omega
    refine z3f [2] mixed ?_;refine aQ ?_;cases w:strP (l.drop m) with
    |error e=>
     have hr:=z7z l m W V w;have u:=O.trans (q3v R (by omega) w);rw [j1U (Z.trans u)] at j;subst j;simp only [shiftP,closeP,chkP];refine q0q [8] hr rfl (by decide) ⟨rfl,rfl,trivial⟩ rfl rfl ?_ ?_
     . simp (maxSteps:=3000000) only [mgA,sig,q0u,q0A,List.append_assoc,getA,getA0,setA,setA0,Ab,Au,go_sem,↓zA,↓reduceIte,↓reduceDIte] <;>try simp only [zB]
     refine rnE ?_;refine aQ ?_;refine q0q [] (q5Y (.string ⟨#[]⟩) e (q6k w)) rfl (by decide) trivial rfl rfl ?_ ?_
     . simp (maxSteps:=3000000) only [mgA,sig,q0u,q0A,List.append_assoc,getA,getA0,setA,setA0,Ab,Au,go_sem,↓zA,↓reduceIte,↓reduceDIte] <;>try simp only [zB]
     refine rnE ?_;refine z4e ?_;with_reducible refine sxaE ?_
     refine ⟨by simp,?_⟩;have a:=λK D=>q5v b n (n+N) e 82 24 33 82 (.bld (G.length+9) .str xs.length) (rS ⟨#[]⟩) (.int .i64 0) ([rdr c k,.dead,rdr l m]++G++ [.row .str xs]) K D;simp only [Ay,Ar,List.append_assoc] at a;refine a _ ?_;with_reducible refine sxaE ?_;trivial
    |ok y=>
     obtain ⟨v,q⟩:=y;have hr:=z6x l m W V w;have L:=j2K w;have af:=z6l (q6d w).1;have hq:2<=q:=by rw [(q6d w).2.2];exact af
     have ad:=z6M (l.drop m) v q (by rw [Ah];omega) w;rw [Ah] at L;have ae:=O.trans (q8B R (by omega) w);refine q0q [8] hr rfl (by decide) ⟨rfl,rfl,trivial⟩ rfl rfl ?_ ?_
     . simp (maxSteps:=3000000) only [mgA,sig,q0u,q0A,List.append_assoc,getA,getA0,setA,setA0,Ab,Au,go_sem,↓zA,↓reduceIte,↓reduceDIte] <;>try simp only [zB]
     refine rnE ?_;refine aQ ?_;refine q0g (q7a _) ?_;refine aQ ?_;refine ⟨by show v.size<=_;omega,⟨by omega,by omega⟩,z9d ?_⟩;refine aQ ?_;refine ⟨(m+q,xs++ [v],G++ [.dead,.row .str [v]]),⟨by simp;omega,by dsimp only;omega,λx B=> ?_,?_⟩,by dsimp only;omega,?_,?_⟩
     . rcases Cp.1 B with B|B
       . exact i4 x B
       rw [List.mem_singleton] at B;subst B;exact ad
     . dsimp only;rw [ae,Ab,List.length_singleton,Nat.sub_sub]
     . simp
     with_reducible refine sxaE ?_;trivial
  have u:=O.trans (z1K (by omega));rw [j1P (Z.trans u),j2p,AG] at j;clear Z u O;refine z5h (ty:=.str) (xs:=xs) [rdr b (n+N),.cells 82 [.ptr 0 0],.cells 24 [.bld (G.length+9) .str xs.length,rS ⟨#[]⟩],.cells 33 [rI 0],rdr b n,.cells 82 [.ptr 4 0],rdr c k,.dead,rdr l m] [rdr b (n+N),.cells 82 [.ptr 0 0],.cells 24 [.bld 9 .str xs.length,rS ⟨#[]⟩],.cells 33 [rI 0],rdr b n,.cells 82 [.ptr 4 0],rdr c k,.dead,rdr l m] G rfl (by simp) (by simp) ?_ (by rfl) ?_ ?_ ?_
  . simp [SObj.ren,SV.ren,SV.renL,shift,Br]
  . rfl
  . with_reducible refine sxE ?_;trivial
  with_reducible refine sxE ?_
  have hxs:xs.length<=1099511627776:=by omega
  refine q1o 9 rfl rfl (by omega) ?_ ?_ ?_
  . with_reducible refine sxE ?_
    exact Ac _
  . with_reducible refine sxE ?_;trivial
  with_reducible refine sxE ?_
  rw [Aa (Ac _)];have S:=j7u 1 (by omega) c k hk U;cases F:needP 1 strP (c.drop k) with
  |error e=>rw [q0X F] at j;subst j;have hf1':=q2d S F;simp only [shiftP,closeP,chkP];refine gQ ?_;refine effP [6] (hf1') ?_;refine ⟨by simp,?_⟩;have a:=λK D=>q5v b n (n+N) e 82 24 33 82 (.isl .str xs) (rS ⟨#[]⟩) (.int .i64 0) [.dead,.dead,rdr l m,.dead] K D;simp only [Ay,Ar,List.append_assoc] at a;refine a _ ?_;with_reducible refine sxE ?_;trivial
  |ok y=>
   obtain ⟨t,q⟩:=y;rw [q1A F] at j;have hf1':=q0W S F;have ab:=q2u q0Q hk F;have hts:=q4L z6M (c.drop k) t q (by rw [Ah];omega) F;have aa:=q2C c (k+q) ab;simp only [shiftP,retP,closeP] at j;refine gQ ?_;refine eQ [6] (hf1') ?_;refine eQ [6] (aa) ?_;refine ⟨λhle=>q0b (q6K (xs,t) ⟨⟨by show xs.length<=_;omega,λx B=>by have:=i4 x B;show x.size<=_;omega⟩,by show t.size<=_;omega⟩) ?_,λhgt=>⟨by simp,?_⟩⟩
   . rw [if_neg (by omega)] at j;simp only [chkP] at j;cases hv:vPrin (xs,t) with
     |true=>rw [if_pos hv] at j;subst j;refine gQ ?_;refine j3E _ _ λG=> ?_;with_reducible refine sxE ?_;trivial
     |false=>rw [if_neg (by rw [hv];decide)] at j;subst j;refine gQ ?_;refine ⟨by simp,?_⟩;have a:=λK D=>q5v b n (n+N) 6 82 24 33 82 (.isl .str xs) (rS t) (.int .i64 0) [rdr c (k+q),.dead,rdr l m,.dead] K D;simp only [Ay,Ar,List.append_assoc] at a;refine a _ ?_;with_reducible refine sxE ?_;trivial
   rw [if_pos (by omega)] at j;simp only [chkP] at j;subst j;have a:=λK D=>q5v b n (n+N) 6 82 24 33 82 (.isl .str xs) (rS t) (.int .i64 0) [rdr c (k+q),.dead,rdr l m,.dead] K D;simp only [Ay,Ar,List.append_assoc] at a;refine a _ ?_;with_reducible refine sxE ?_;trivial
def z9G{Q Q':α->Prop}(h:OkP p Q)(hq:∀v,Q v->Q' v):OkP p Q':=λr v m hr hx=>hq v (h r v m hr hx)
theorem j3r{p:PR Prin}{Q:Prin->Prop}(l:∀v,vPrin v=true->Q v):OkP (λr=>chkP vPrin (p r)) Q:=λr v m _ a=>by
 have a:chkP vPrin (p r)= .ok (v,m):=a;cases j:p r with
 |error e=>rw [j] at a;cases a
 |ok y=>
  obtain ⟨u,k⟩:=y;rw [j] at a;simp only [chkP] at a;split at a
  . cases a;exact l _ (by assumption)
  cases a
def j5n{p:Prin}(h:vPrin p=true):PrinT.ok p:=by obtain ⟨h1,a,h3⟩:=z9Q h;exact ⟨⟨by omega,λx j=>by have:=a x j;show x.size<=_;omega⟩,by show p.2.size<=_;omega⟩
def j0K:OkP nameP PrinT.ok:=j3r λ_ h=>j5n h
def z3p:OkP octP (Ty.slice .u8).ok:=z7M λc v hc a=>by unfold decOct at a;cases a;exact ⟨by show c.length<=_;omega,λ_ _=>trivial⟩
def j8s{t:Ty}{p:PR t.den}(n:Nat)(hn:n<=1000)(h:OkP p t.ok):OkP (inP 48 (listP p n)) (Ty.slice t).ok:=z1R (z9G (z3G h n) λv a=>⟨by have:=a.1;omega,a.2⟩)
def j5m:OkP keyP KeyT.ok:=z1R (q5d (Q1:=λ_=>True) z0o λ_ _=>q5d (Q1:=λ_=>True) z0o λ_ _=>q5d (q4L z3p) λ_ hc=>z8b ⟨trivial,trivial,hc⟩)
def q6U{α:Type}{p:PR α}(A:ErrP p):∀n,ErrP (listP p n)
 |0,r,e,h=>by
  simp only [listP] at h;split at h<;>cases h
  decide
 |n+1,r,e,h=>by
  simp only [listP] at h;split at h
  . cases h
  cases a:p r with
  |error e1=>rw [a] at h;cases h;exact A r _ a
  |ok y=>
   obtain ⟨u,k⟩:=y;rw [a] at h;simp only at h;cases j:listP p n (r.drop k) with
   |error e2=>rw [j] at h;cases h;exact q6U A n _ _ j
   |ok z=>obtain ⟨w,l⟩:=z;rw [j] at h;cases h
def j0Z:ErrP nameP:=λr e h=>by
 have w:ErrP (inP 48 nameIn):=q7X (q2b (q2z q3J) λl=>q2b (λr' e' j=>by
  unfold strsP atP at j;cases a:listP strP l.length l with
  |error e1=>rw [a] at j;cases j;exact q6U q3J _ _ _ a
  |ok y=>obtain ⟨u,k⟩:=y;rw [a] at j;cases j) λ_=>q2b (q2z q3J) λ_=>q9b)
 unfold nameP at h;cases a:inP 48 nameIn r with
 |error e1=>rw [a] at h;cases h;exact w r _ a
 |ok y=>
  obtain ⟨u,k⟩:=y;rw [a] at h;simp only [chkP] at h;split at h<;>cases h
  decide
def z5l:FitsP nameP:=λr v m h=>by
 unfold nameP at h;cases a:inP 48 nameIn r with
 |error e1=>rw [a] at h;cases h
 |ok y=>
  obtain ⟨u,k⟩:=y;rw [a] at h;simp only [chkP] at h;split at h
  . cases h;exact q4V r _ _ a
  cases h
def j7v(b:List UInt8)(n:Nat)(a:n<=b.length)(j:b.length<=1099511627776):
 EffR Tryz.prog 72 [.ptr 0 0] b n (λp:Prin=>.agg (PrinT.cells p)) zPrin (nameP (b.drop n)):=by
 by_cases h:takeE 48 (b.drop n)=0
 . exact j5J b n a j h
 exact j5Z b n a j h
def appB(n:Nat):UInt8:=byteOf (96+n)
def j2W{m:Nat}(hm:m<=30):IntKind.u8.wrap (IntKind.i64.wrap (96+ (m:Int)))=((appB m).toNat:Int):=by rw [wrapi (by omega)];exact (q5G _).symm
theorem j5y(m:Nat)(l:m<=30)(b:List UInt8)(n:Nat)(A:n<=b.length)(y:b.length<=1099511627776)(w:takeE (appB m) (b.drop n)=0):
 PE Tryz.prog 65 [.ptr 0 0,rI m] [rdr b n] (.ret (.tup [.ptr 1 0,rI 0])) [rdr b (n+takeN (b.drop n)),rdr (takeC (b.drop n)) 0]:=by
 have j:=q9q (appB m) b n A y w;have u:=j2W l;generalize takeC (b.drop n)=c at*;generalize takeN (b.drop n)=k at*;refine q0a (by simp) ?_;refine rQ fi65 ?_;refine ⟨λ_=>⟨λa=>absurd a (by omega),λ_=> ?_⟩,λhneg=>by exfalso;omega⟩;rw [u];refine eQ [0] (j) ?_;trivial
theorem j3P(m:Nat)(l:m<=30)(b:List UInt8)(n:Nat)(A:n<=b.length)(y:b.length<=1099511627776)(w:takeE (appB m) (b.drop n)≠0):
 PE Tryz.prog 65 [.ptr 0 0,rI m] [rdr b n] (.ret (.tup [.raw (.pointer none),rI (takeE (appB m) (b.drop n))])) [rdr b n]:=by
 have j:=q9J (appB m) b n A y w;have u:=j2W l;generalize takeE (appB m) (b.drop n)=e at*;refine q0a (by simp) ?_;refine rQ fi65 ?_;refine ⟨λ_=>⟨λa=>absurd a (by omega),λ_=> ?_⟩,λhneg=>by exfalso;omega⟩;rw [u];refine eQ [0] (j) ?_;trivial
def cstP(v:Int):PR Unit:=λr=>match intP r with
 |.ok (w,k)=>if w=v then .ok ((),k) else .error 6
 |.error e=>.error e
end Go.Proofs.YthbcodbcndiapaaGreatDoor
namespace Go.Sx
section
open Go
variable [Ghost] {P:Program} {AQ:Ex->List SV->List SObj->Prop} {k0:Nat} {k:List IT} {t:List SV} {H:List SObj}

variable {ty:Ty}{xs:List ty.den}
theorem q8p{k:List It}{t':List SV}(A A' G:List SObj)(O:k0<=A.length)(V:A=A'.map (SObj.ren (shift A.length (A.length+G.length))))(U:belH (A.length+1) A'=true)(hbt:SV.belL (A.length+1) t'=true)
 (W:leT (shift A.length (A.length+G.length)) t t')(X:Sound P AQ ⟨k0,k,t',A'++ [.row ty xs]⟩):Sound P AQ ⟨k0,k,t,A++G++ [.row ty xs]⟩:=by
 intro E r n C a I R;have j:A.length=A'.length:=by grind
 have L:∀h,h<A.length->shift A.length (A.length+G.length) h=h:=λh w=>by unfold shift;grind
 have B:shift A.length (A.length+G.length) A.length=A.length+G.length:=by unfold shift;grind
 have N:Den E (C.ren (shift A.length (A.length+G.length)) (A'++ [SObj.row ty xs]).length) t' (A'++ [.row ty xs]) a:=by
  refine q7y I.1 R W (by grind) (λh o u _=> ?_) (q4A λh o u=> ?_) (λh h' o o' u ho' _ _ e=> ?_) (λh w=>L h (Aj w O)) (by grind) (λm J F=> ?_)
  . rcases q0j u with ⟨w,u⟩ | ⟨w,rfl⟩
    . grind
    rw [w,<-j,B,<-Ab,AI (Ac _),Nat.sub_self];rfl
  . rcases q0j u with ⟨w,u⟩ | ⟨w,rfl⟩
    . rw [Ab,<-j];exact q2F U u
    rfl
  . grind
  have F:=F;have y:0<A.length:=Aj J (Ao I.1 O);rw [List.append_assoc,As y] at F;rw [As (by omega)];have D:=congrArg (λl=>l[0]?) V;simp only [AF,F] at D;cases S:A'[0]? with
  |none=>grind
  |some o=>rw [S] at D;cases o<;>simp [SObj.ren] at D;rw [D]
 exact X E r n (C.ren (shift A.length (A.length+G.length)) (A'++ [SObj.row ty xs]).length) a I N
variable {td:List IT}
theorem z2H(t':List SV)(A A' G:List SObj)(hp:plainT td=true)(hH:H=A++G++ [.row ty xs])(hk:k0<=A.length)(hA:A=A'.map (SObj.ren (shift A.length (A.length+G.length))))(hb:belH (A.length+1) A'=true)(hbt:SV.belL (A.length+1) t'=true)
 (hl:leT (shift A.length (A.length+G.length)) t t')(hs:SoundI P AQ ⟨k0,td,t',A'++ [.row ty xs]⟩):SoundI P AQ ⟨k0,td,t,H⟩:=by
 grind [q0d,q8p,q0e]
def z3d(slot n:Nat)(A A' G:List SObj)(hp:plainT td=true)(hH:H=A++G++ [.row ty xs])(hk:k0<=A.length)(hA:A=A'.map (SObj.ren (shift A.length (A.length+G.length))))(hb:belH (A.length+1) A'=true)(hbt:SV.belL (A.length+1) (t.set slot (.bld A.length ty n))=true)
 (hl:leT (shift A.length (A.length+G.length)) t (t.set slot (.bld A.length ty n)))(hs:SoundI P AQ ⟨k0,td,t.set slot (.bld A.length ty n),A'++ [.row ty xs]⟩):SoundI P AQ ⟨k0,td,t,H⟩:=
 z2H _ A A' G hp hH hk hA hb hbt hl hs

def z5B{a b c:SV}(h:leM1 a b)(k:leM1 b c):leM1 a c:=by cases c<;>first|trivial| (simp only [leM1] at k;subst k;exact h)
def z8X(s:SV):leM1 s s:=(q4H [s]).1
def z0y:∀ {a b c:List SV},leM a b->leM b c->leM a c
 | [],[],[],_,_=>trivial
 |_ :: _,_ :: _,_ :: _,h,k=>⟨z5B h.1 k.1,z0y h.2 k.2⟩
 | [],[],_ :: _,_,k=>k.elim
 | [],_ :: _,_,h,_=>h.elim
 |_ :: _,[],_,h,_=>h.elim
 |_ :: _,_ :: _,[],_,k=>k.elim
def z7T:∀ (t:List SV) (d:Nat),leM t (t.set d .any)
 | [],_=>trivial
 |_ :: l,0=>⟨trivial,q4H l⟩
 |s :: l,d+1=>⟨z8X s,z7T l d⟩
def z4P:∀ (ws:List Nat) (t:List SV),leM t (maskT ws t)
 | [],t=>q4H t
 |d :: ws,t=>z0y (z7T t d) (z4P ws _)
def q2W(ws:List Nat)(hp:plainT td=true)(hs:SoundI P AQ ⟨k0,td,maskT ws t,H⟩):SoundI P AQ ⟨k0,td,t,H⟩:=
 q0d (λ_ hr E r n C a h0 hd=>q0e hs hr E r n C a h0 ⟨hd.wd,hd.ext,hd.defs,q2p (q3e (z4P ws t)) hd.tmps⟩) hp

def VC.arg{f:FuncId}{args args':List SV}{K:Out->List SObj->Prop}(h:VC P f args H K)(hl:SV.leVL args' args):VC P f args' H K:=
 ⟨h.1,λC vs hw ht hv=>h.2 C vs hw ht (q4K hl hv)⟩
end
end Go.Sx
namespace Go.Proofs.YthbcodbcndiapaaGreatDoor
open Go Go.Sx Go.Proofs
set_option maxRecDepth 100000
set_option maxHeartbeats 4000000
def datIn:PR Pre:=bindP (needP 0 intP) λa=>bindP (needP 1 octP) λc=>retP ((a,c):Pre)
def datP:PR Pre:=inP 48 datIn
def dataP:PR (List Pre):=inP 48 (listP datP 16)
def j3o:ErrP datP:=q7X (q2b (q2z q3J) λ_=>q2b (q2z q3J) λ_=>q9b)
def j0i:ErrP dataP:=q7X (q6U j3o 16)
theorem j4M(b:List UInt8)(n:Nat)(hn:n<=b.length)(L:b.length<=1099511627776):
 EffZ Tryz.prog 152 [.ptr 0 0] b n (posX b n) (λl:List Pre=>.isl PreT l) (dataP (b.drop n)):=by
 unfold dataP;by_cases h:takeE 48 (b.drop n)=0
 . have S:=q5s b n hn L h;have Y:=q1y (n:=n) L;rw [q2N h,j2Y h];generalize takeC (b.drop n)=c at*;generalize takeN (b.drop n)=N at*;generalize hX:listP datP 16 c=X;refine q6P ?_;refine rQ fi152 ?_;refine eQ [0] (S) ?_;refine eQ [1] (q7l c 0) ?_;refine z1A 2 PreT rfl rfl ?_;with_reducible refine sxE ?_
   refine q0p (ι:=Nat×List Pre×List SObj) (λs=>[(2,.bld (s.2.2.length+2) PreT s.2.1.length)]) (λs=>[rdr b (n+N),rdr c s.1]++s.2.2++ [.row PreT s.2.1]) (λs=>20-s.2.1.length) (λs=>s.2.1.length<=16/\s.1<=c.length/\X=tailP s.2.1 s.1 (listP datP (16-s.2.1.length) (c.drop s.1))) (0,[],[]) ⟨Ai _,Ai _,?_⟩ rfl ?_ ?_
   . rw [Ap,z4w];exact hX.symm
   . with_reducible refine sxE ?_;trivial
   rintro ⟨k,xs,G⟩ ⟨i1,J,w⟩;dsimp only at i1 J w;refine z3d (ty:=PreT) (xs:=xs) 2 xs.length [rdr b (n+N),rdr c k] [rdr b (n+N),rdr c k] G rfl (by simp) (by simp) ?_ (by rfl) ?_ ?_ ?_
   . simp [SObj.ren,SV.ren,SV.renL]
   . rfl
   . with_reducible refine sxE ?_
     exact congrArg (λq=>SV.bld q PreT xs.length) (Br _ _)
   have B:=q2C c k J;refine gQ ?_;refine eQ [1] (B) ?_;refine ⟨λR=>⟨λO=> ?_,λO=> ?_⟩,λR=> ?_⟩
   . have h0:16-xs.length=0:=by omega
     rw [h0] at w;rw [w.trans (z5F (by omega))];simp only [closeP];with_reducible refine sxE ?_
     rfl
   . have u:k<c.length:=by omega
     have j:0<16-xs.length:=by omega
     by_cases D:takeE 48 (c.drop k)=0
     . have A:=q5s c k J Y D;have Z:=q1y (n:=k) Y;have a:datP (c.drop k)=closeP (takeC (c.drop k)).length (takeN (c.drop k)) (datIn (takeC (c.drop k))):=q2N D;have hM:=q3f D;rw [Ah] at hM;generalize takeC (c.drop k)=s at*;generalize takeN (c.drop k)=M at*;unfold datIn at a;refine eQ [1] (A) ?_;refine eQ [3] (q7l s 0) ?_;have W:=z7s 0 (by omega) s 0 (Ai _) Z;rw [Ap] at W;cases F:needP 0 intP s with
       |error e=>rw [q0X F] at a;rw [w.trans (q3v u j a)];have e1':=q2d W F;simp only [closeP];refine effP [3] (e1') ?_;trivial
       |ok y=>
        obtain ⟨v1,I⟩:=y;rw [q6D F] at a;have e1':=q0W W F;have f1:=q0Q _ _ _ F;rw [Ag] at e1';refine eQ [3] (e1') ?_;have e2:=j3d 1 (by omega) s _ f1 Z;cases E:needP 1 octP (s.drop I) with
        |error e=>rw [q0X E] at a;rw [w.trans (q3v u j a)];have e2':=q2d e2 E;simp only [closeP];refine effP [3] (e2') ?_;trivial
        |ok y=>
         obtain ⟨v2,V⟩:=y;rw [q1A E] at a;have e2':=q0W e2 E;have f2:=q2u q0Q f1 E;simp only [shiftP,retP,closeP,AG] at a;refine eQ [3] (e2') ?_;by_cases U:I+V<s.length
         . rw [if_pos U] at a;rw [w.trans (q3v u j a)];simp only [closeP];refine effP [3] (z4r s _ U) ?_;rfl
         rw [if_neg U] at a;have hX':=w.trans (q8B u j a);refine eQ [3] (z4T s (I+V) (by omega)) ?_;refine ⟨⟨by omega,by omega⟩,(k+M,xs++ [(v1,v2)],[.dead,rdr s (I+V),.row PreT [(v1,v2)]]),⟨by simp;omega,by dsimp only;omega,?_⟩,by simp;omega,rfl,?_⟩
         . dsimp only;rw [hX',Ab,List.length_singleton,Nat.sub_sub]
         with_reducible refine sxE ?_;trivial
     have A:=q5Q c k J Y D;have a:datP (c.drop k)= .error (takeE 48 (c.drop k)):=q3t D;rw [w.trans (q3v u j a)];generalize takeE 48 (c.drop k)=e at*;simp only [closeP];refine eQ [1] (A) ?_;refine effP [] (q3H e D) ?_;trivial
   rw [w.trans (z1K (by omega))];simp only [closeP];rw [if_neg (by omega)];with_reducible refine sxE ?_
   exact ⟨⟨Ac _,by omega⟩,Aa (Ac _)⟩
 have S:=q5Q b n hn L h;rw [q3t h,j2P h];generalize takeE 48 (b.drop n)=e at*;refine q6P ?_;refine rQ fi152 ?_;refine eQ [0] (S) ?_;refine effP [] (q3H e h) ?_;trivial
def j3O(b:List UInt8)(n m e:Nat)(u a j l:TypeId)(y:Value)(K:List SObj->Prop)
 (h:∀G,K ([rdr b n,.cells u [.ptr 0 0],.cells a [.raw (.slice none 0 0)],.cells j [rI e],.cells l [rI n]]++G)):
 DCall Tryz.prog 189 [.ptr 4 0,.ptr 1 0,.ptr 2 0,.ptr 3 0] (some (errV e)) [rdr b m,.cells u [.ptr 0 0],.cells a [.raw (.slice none 0 0)],.cells j [.raw y],.cells l [rI n]] K:=by
 refine recE mixed fi189 ?_;exact h _
def j6u(H:List SObj)(K:List SObj->Prop)(h:∀G,K (H++G)):DCall Tryz.prog 189 [.ptr 4 0,.ptr 1 0,.ptr 2 0,.ptr 3 0] none H K:=by refine recE mixed fi189 ?_;simpa using h []
abbrev zDat:SV:=.isl PreT []
theorem j5I(b:List UInt8)(n:Nat)(j:n<=b.length)(u:b.length<=1099511627776):
 EffR Tryz.prog 151 [.ptr 0 0,.fn 152 [] []] b n (λl:List Pre=>.isl PreT l) zDat (dataP (b.drop n)):=by
 have a:=j4M b n j u;generalize dataP (b.drop n)=X at*;cases X with
 |error e=>have hk':=z2c a rfl;refine q0a (by simp) ?_;refine defE mixed fi151 ?_;refine gQ ?_;refine effP [0] (hk') ?_;refine ⟨by simp,j3O b n _ e _ _ _ _ _ _ λG=> ?_⟩;with_reducible refine sxE ?_;trivial
 |ok x=>obtain ⟨v,k⟩:=x;have hk':=z3i a rfl;refine q0a (by simp) ?_;refine defE mixed fi151 ?_;refine gQ ?_;refine eQ [0] (hk') ?_;refine j6u _ _ λG=> ?_;with_reducible refine sxE ?_;trivial
theorem j1s(b:List UInt8)(n:Nat)(j:n<=b.length)(u:b.length<=1099511627776):
 EffR Tryz.prog 79 [.ptr 0 0] b n (λl:List Pre=>.isl PreT l) zDat (dataP (b.drop n)):=by
 have a:=j5I b n j u;generalize dataP (b.drop n)=X at*;cases X with
 |error e=>have hk':=q3D a rfl;refine q0a (by simp) ?_;refine rQ fi79 ?_;refine eQ [0] (hk') ?_;trivial
 |ok x=>obtain ⟨v,k⟩:=x;have hk':=q3G a rfl;refine q0a (by simp) ?_;refine rQ fi79 ?_;refine eQ [0] (hk') ?_;trivial
@[go_sem] abbrev mU(o:Int):SV:=.raw (.int .u32 o)
variable {α:Type}
def EffY(P:Program)(f:FuncId)(args:List SV)(b:List UInt8)(n:Nat)(res:α->SV):Except Nat (α×Nat)->Prop
 |.ok (v,k)=>PE P f args [rdr b n] (.ret (res v)) [rdr b (n+k)]
 |.error _=>∃e:Nat,PE P f args [rdr b n] (.pan (errV e)) [.dead]
variable {P:Program}{f:FuncId}{args:List SV}{b:List UInt8}{res:α->SV}{x:Except Nat (α×Nat)}
def q7T{n:Nat}{v:α}{k:Nat}(h:EffY P f args b n res x)(a:x= .ok (v,k)):PE P f args [rdr b n] (.ret (res v)) [rdr b (n+k)]:=by rw [a] at h;exact h
def q7I{n:Nat}{e:Nat}(h:EffY P f args b n res x)(a:x= .error e):∃e:Nat,PE P f args [rdr b n] (.pan (errV e)) [.dead]:=by rw [a] at h;exact h
set_option synthInstance.maxSize 2000
set_option synthInstance.maxHeartbeats 400000
def q3d(l a:List UInt8):PC Tryz.prog 101 [.isl .u8 l,.isl .u8 a] (rB (decide (l=a))):=by refine q0s rfl rfl ?_;refine rQ fi101 ?_;simp only [q4P]
theorem z0u(l u:List ByteArray)(D:(Ty.slice Ty.str).ok l):PC Tryz.prog 170 [.isl .str l,.isl .str u] (rB (decide (l=u))):=by
 have hlen:=D.1;have key:=sameN l u (ByteArray.empty);refine q0s rfl rfl ?_;refine rQ fi170 ?_<;>try with_reducible exact True.intro
 repeat' (first
  | (with_reducible refine And.intro ?_ ?_)
  | (with_reducible intro _))
 all_goals (skip)
 . grind
 refine q1f (λi=>[(13,.raw (.int .i64 ((i:Nat):Int)))]) (l.length) (λj=>(eqAt l u ByteArray.empty) j=true) (by first|decide|simp) (λi=>rfl) ?_ λi hi a=> ?_
 . (with_reducible refine sxE ?_<;>try exact True.intro)
   all_goals (try rfl)
 have y:=wsx i (by omega);refine gQ ?_;have A:i< (l.length)->(eqAt l u ByteArray.empty) i=false->allN (l.length) (eqAt l u ByteArray.empty)=false:=λw B=>q0C w B;have fin:¬i< (l.length)->allN (l.length) (eqAt l u ByteArray.empty)=true:=λh=>q0E λj hj=>a j (by omega);try dsimp only at A fin a
 repeat' (first
  | (refine q0b (skip) ?_;refine uQ 600 _ ?_;simp (maxSteps:=3000000) only [go_sem,↓zA,↓reduceIte,↓reduceDIte] <;>try simp only [zB])
  | (refine q0g (skip) ?_;refine uQ 600 _ ?_;simp (maxSteps:=3000000) only [go_sem,↓zA,↓reduceIte,↓reduceDIte] <;>try simp only [zB])
  | (refine q0n (skip) ?_;refine uQ 600 _ ?_;simp (maxSteps:=3000000) only [go_sem,↓zA,↓reduceIte,↓reduceDIte] <;>try simp only [zB])
  | (with_reducible refine And.intro ?_ ?_)
  | (with_reducible intro _))
 all_goals (first| (with_reducible (refine (id ?_:SoundI _ _ _))) | ((try simp only [Ty.dflt] at*);first|omega| (refine ⟨by omega,q1t a (by grind [eqAt]),⟨_,by first|rfl|exact List.append_assoc _ _ _| (simp only [List.append_assoc,Ay,Ar];rfl)⟩,?_⟩;simp only [y,go_sem,↓zA,↓reduceIte,↓reduceDIte] <;> (first|rfl| (grind [eqAt]))) | (refine ⟨_,rfl⟩) | (refine ⟨_,List.append_assoc _ _ _⟩) | (grind [eqAt])))
theorem z3A(p w:Prin)(u:PrinT.ok p):PC Tryz.prog 94 [.agg (PrinT.cells p),.agg (PrinT.cells w)] (rB (decide (p=w))):=by
 obtain ⟨a,r⟩:=p;obtain ⟨l,j⟩:=w;have y:decide ((a,r)=(l,j))=(decide (r=j) && decide (a=l)):=by rw [Bz];simp only [decide_eq_true_eq,Ak,Prod.mk.injEq];exact ⟨λh=>⟨h.2,h.1⟩,λh=>⟨h.2,h.1⟩⟩
 rw [show rB (decide ((a,r)=(l,j)))=rB (decide (r=j) && decide (a=l)) from by rw [y]];clear y;refine q0s rfl rfl ?_;refine rQ fi94 ?_<;>try with_reducible exact True.intro
 repeat' (first
  | (refine q0b (z0u _ _ u.1) ?_;refine uQ 600 _ ?_;simp (maxSteps:=3000000) only [go_sem,↓zA,↓reduceIte,↓reduceDIte] <;>try simp only [zB])
  | (refine q0g (z0u _ _ u.1) ?_;refine uQ 600 _ ?_;simp (maxSteps:=3000000) only [go_sem,↓zA,↓reduceIte,↓reduceDIte] <;>try simp only [zB])
  | (refine q0n (z0u _ _ u.1) ?_;refine uQ 600 _ ?_;simp (maxSteps:=3000000) only [go_sem,↓zA,↓reduceIte,↓reduceDIte] <;>try simp only [zB])
  | (with_reducible refine And.intro ?_ ?_)
  | (with_reducible intro _))
 all_goals (skip)
 all_goals grind
theorem z4M(k k':Key):PC Tryz.prog 102 [.agg (KeyT.cells k),.agg (KeyT.cells k')] (rB (decide (k=k'))):=by
 obtain ⟨a,b,c⟩:=k;obtain ⟨j,u,l⟩:=k';have w:decide ((a,b,c)=(j,u,l))=(decide (a=j) && (decide (b=u) && decide (c=l))):=by rw [Bz];simp only [decide_eq_true_eq,Ak,Prod.mk.injEq]
 rw [show rB (decide ((a,b,c)=(j,u,l)))=rB (decide (a=j) && (decide (b=u) && decide (c=l))) from by rw [w]];clear w;refine q0s rfl rfl ?_;refine rQ fi102 ?_<;>try with_reducible exact True.intro
 repeat' (first
  | (refine q0b (q3d _ _) ?_;refine uQ 600 _ ?_;simp (maxSteps:=3000000) only [go_sem,↓zA,↓reduceIte,↓reduceDIte] <;>try simp only [zB])
  | (refine q0g (q3d _ _) ?_;refine uQ 600 _ ?_;simp (maxSteps:=3000000) only [go_sem,↓zA,↓reduceIte,↓reduceDIte] <;>try simp only [zB])
  | (refine q0n (q3d _ _) ?_;refine uQ 600 _ ?_;simp (maxSteps:=3000000) only [go_sem,↓zA,↓reduceIte,↓reduceDIte] <;>try simp only [zB])
  | (with_reducible refine And.intro ?_ ?_)
  | (with_reducible intro _))
 all_goals (skip)
 all_goals grind
theorem q7p(v a j:Int):PC Tryz.prog 174 [rI v,rI a,rI j] (rB (mIn a j v)):=by refine q0s rfl rfl ?_;refine rQ fi174 ?_;grind [mIn]
theorem z0E(v:Int):PC Tryz.prog 172 [rI v] (rB (vTime v)):=by refine q0s rfl rfl ?_;refine rQ fi172 ?_;refine cQ (q7p _ _ _) ?_;rfl
def j8h(l:List Bool)(a:l.length<=1125899906842624):PC Tryz.prog 171 [.isl .bool l] (rB (l.all id)):=by refine q0s rfl rfl ?_;refine rQ fi171 ?_;refine cQ (q6Y l a) ?_;simp
def j3y(v:Int):PC Tryz.prog 173 [rI v] (rB (mIn 0 86400 v)):=by refine q0s rfl rfl ?_;refine rQ fi173 ?_;refine cQ (q7p _ _ _) ?_;trivial
def witB(a b s:Int):Bool:=vTime a&& (vTime b&& (mIn 0 86400 s&& mIn (-s) s (a-b)))
theorem j6V(a b s:Int):PC Tryz.prog 95 [rI a,rI b,rI s] (rB (witB a b s)):=by
 have u:=j8h [vTime a,vTime b,mIn 0 86400 s] (by simp);have l:witB a b s=(([vTime a,vTime b,mIn 0 86400 s].all id) && mIn (-s) s (a-b)):=by simp [witB,Bool.and_assoc]
 have w:[vTime a,vTime b,mIn 0 86400 s].all id=true->IntKind.i64.wrap (a-b)=a-b/\IntKind.i64.wrap (-s)= -s:=λh=>by simp only [BE,Cu,id,CI,Ak,vTime,mIn,decide_eq_true_eq] at h;exact ⟨wrapi (by omega),wrapi (by omega)⟩
 rw [l];refine q0s rfl rfl ?_;refine rQ fi95 ?_;refine cQ (z0E _) ?_;refine cQ (z0E _) ?_;refine cQ (j3y _) ?_;refine q0F 0 ?_;with_reducible refine sxE ?_
 refine q0b u ?_;generalize [vTime a,vTime b,mIn 0 86400 s].all id=q at*;cases q with
 |false=>refine gQ ?_;trivial
 |true=>obtain ⟨y,j⟩:=w rfl;rw [show -s=0-s by omega] at j⊢;refine gy2 y j ?_;refine cQ (q7p _ _ _) ?_;trivial
set_option maxHeartbeats 40000000
abbrev AutT:Ty:=.prod PrinT (.prod (.slice .u8) (.prod I64 (.prod I64 (.prod KeyT (.prod I64 (.slice PreT))))))
abbrev Aut:=AutT.den
theorem z0T(v:Int):PC Tryz.prog 44 [rI v] (rB (vTime v)):=by refine q0s rfl rfl ?_;refine rQ fi44 ?_;grind [vTime,mIn]
def nKey:Key:=((0:Int),(0:Int),[])
def j5N(k:Key):PC Tryz.prog 45 [.agg (KeyT.cells k)] (rB (decide (k=nKey))):=by
 have h:=z4M k nKey;refine q0s rfl rfl ?_;refine rQ fi45 ?_;refine q0b (h.arg ?_) ?_
 . simp (maxSteps:=3000000) only [nKey,go_sem,↓zA,↓reduceIte,↓reduceDIte] <;>try simp only [zB]
 refine gQ ?_;trivial
def datAt(l:List Pre)(j:Nat):Bool:=mIn 0 2147483647 (l.getD j PreT.dflt).1&& decide (((l.getD j PreT.dflt).2.length:Int)<=4096)
def vDat(l:List Pre):Bool:=allN l.length (datAt l) && decide ((l.length:Int)<=16)
theorem j0R(l:List Pre)(I:(Ty.slice PreT).ok l):PC Tryz.prog 47 [.isl PreT l] (rB (vDat l)):=by
 have hl:=I.1;refine q0s rfl rfl ?_;refine rQ fi47 ?_;refine q1f (λi=>[(7,.raw (.int .i64 ((i:Nat):Int)))]) (l.length) (λj=>(datAt l) j=true) (by first|decide|simp) (λi=>rfl) ?_ λi hi u=> ?_
 . (with_reducible refine sxE ?_<;>try exact True.intro)
   all_goals (try rfl)
 have D:=wsx i (by omega);refine gQ ?_;have y:i< (l.length)->(datAt l) i=false->allN (l.length) (datAt l)=false:=λa w=>q0C a w;have fin:¬i< (l.length)->allN (l.length) (datAt l)=true:=λh=>q0E λj hj=>u j (by omega);try dsimp only at y fin u
 have A:datAt l i=(mIn 0 2147483647 (l.getD i PreT.dflt).1&& decide (((l.getD i PreT.dflt).2.length:Int)<=4096)):=rfl;have w:i<l.length->datAt l i=false->false=vDat l:=λa h=>by unfold vDat;rw [y a h];rfl
 refine ⟨λa=>⟨⟨by omega,a⟩,⟨λF=>⟨λE=>⟨λJ=> ?_,λJ=>⟨a,q1t u ?_,⟨[_],rfl⟩,?_⟩⟩,λE=> ?_⟩,λF=> ?_⟩⟩,λB=> ?_⟩
 . exact w a (by rw [A,decide_eq_false (by omega),CW])
 . rw [A,decide_eq_true (by omega),CI];unfold mIn;rw [decide_eq_true (by omega),decide_eq_true (by omega)];rfl
 . with_reducible refine sx1 D ?_;trivial
 . exact w a (by rw [A];unfold mIn;rw [decide_eq_false (CX.2 E)];simp)
 . exact w a (by rw [A];unfold mIn;rw [decide_eq_false (CX.2 F)];simp)
 unfold vDat;rw [fin B];rfl
def vSub(k:Key):Bool:=decide (k=nKey) || (vKey k&& decide (k.2.1=0))
def vAut(a:Aut):Bool:=vPrin a.1&& (decide ((a.2.1.length:Int)<=64) && (vTime a.2.2.1&& (mIn 0 999999 a.2.2.2.1&& (vSub a.2.2.2.2.1&& (mIn 0 4294967295 a.2.2.2.2.2.1&& vDat a.2.2.2.2.2.2)))))
theorem q9v(a:Aut)(w:AutT.ok a):PC Tryz.prog 11 [.agg (AutT.cells a)] (rB (vAut a)):=by
 obtain ⟨c,s,t,m,k,q,d⟩:=a;have c1:=q6K c w.1;have c2:=z0T t;have c3:=j5N k;have l:=j2v k;have j:=j0R d w.2.2.2.2.2.2;have u:vSub k=(decide (k=nKey) || (vKey k&& decide (k.2.1=0))):=rfl;unfold vAut;dsimp only;rw [u];clear u;generalize vPrin c=x1 at*;generalize vTime t=x2 at*;generalize decide (k=nKey)=x3 at*;generalize vKey k=x4 at*;generalize vDat d=x5 at*;refine q0s rfl rfl ?_;refine rQ fi11 ?_<;>try with_reducible exact True.intro
 repeat' (first
  | (refine q0b (c1) ?_;refine uQ 600 _ ?_;simp (maxSteps:=3000000) only [go_sem,↓zA,↓reduceIte,↓reduceDIte] <;>try simp only [zB])
  | (refine q0g (c1) ?_;refine uQ 600 _ ?_;simp (maxSteps:=3000000) only [go_sem,↓zA,↓reduceIte,↓reduceDIte] <;>try simp only [zB])
  | (refine q0n (c1) ?_;refine uQ 600 _ ?_;simp (maxSteps:=3000000) only [go_sem,↓zA,↓reduceIte,↓reduceDIte] <;>try simp only [zB])
  | (refine q0b (c2) ?_;refine uQ 600 _ ?_;simp (maxSteps:=3000000) only [go_sem,↓zA,↓reduceIte,↓reduceDIte] <;>try simp only [zB])
  | (refine q0g (c2) ?_;refine uQ 600 _ ?_;simp (maxSteps:=3000000) only [go_sem,↓zA,↓reduceIte,↓reduceDIte] <;>try simp only [zB])
  | (refine q0n (c2) ?_;refine uQ 600 _ ?_;simp (maxSteps:=3000000) only [go_sem,↓zA,↓reduceIte,↓reduceDIte] <;>try simp only [zB])
  | (refine q0b (c3) ?_;refine uQ 600 _ ?_;simp (maxSteps:=3000000) only [go_sem,↓zA,↓reduceIte,↓reduceDIte] <;>try simp only [zB])
  | (refine q0g (c3) ?_;refine uQ 600 _ ?_;simp (maxSteps:=3000000) only [go_sem,↓zA,↓reduceIte,↓reduceDIte] <;>try simp only [zB])
  | (refine q0n (c3) ?_;refine uQ 600 _ ?_;simp (maxSteps:=3000000) only [go_sem,↓zA,↓reduceIte,↓reduceDIte] <;>try simp only [zB])
  | (refine q0b (l) ?_;refine uQ 600 _ ?_;simp (maxSteps:=3000000) only [go_sem,↓zA,↓reduceIte,↓reduceDIte] <;>try simp only [zB])
  | (refine q0g (l) ?_;refine uQ 600 _ ?_;simp (maxSteps:=3000000) only [go_sem,↓zA,↓reduceIte,↓reduceDIte] <;>try simp only [zB])
  | (refine q0n (l) ?_;refine uQ 600 _ ?_;simp (maxSteps:=3000000) only [go_sem,↓zA,↓reduceIte,↓reduceDIte] <;>try simp only [zB])
  | (refine q0b (j) ?_;refine uQ 600 _ ?_;simp (maxSteps:=3000000) only [go_sem,↓zA,↓reduceIte,↓reduceDIte] <;>try simp only [zB])
  | (refine q0g (j) ?_;refine uQ 600 _ ?_;simp (maxSteps:=3000000) only [go_sem,↓zA,↓reduceIte,↓reduceDIte] <;>try simp only [zB])
  | (refine q0n (j) ?_;refine uQ 600 _ ?_;simp (maxSteps:=3000000) only [go_sem,↓zA,↓reduceIte,↓reduceDIte] <;>try simp only [zB])
  | (with_reducible refine And.intro ?_ ?_)
  | (with_reducible intro _))
 all_goals (grind [mIn])
def chkS(a:Aut)(c:Prin)(now skew:Int):Int:=
 if vAut a=true/\vPrin c=true/\vTime now=true/\(0<=skew/\skew<=86400) then
  if a.1=c then if -skew<=a.2.2.1-now/\a.2.2.1-now<=skew then 0 else 181 else 180
 else 2
theorem j0E(a:Aut)(y:AutT.ok a)(c:Prin)(I:PrinT.ok c)(l j:Int):PC Tryz.prog 23 [.agg (AutT.cells a),.agg (PrinT.cells c),rI l,rI j] (rI (chkS a c l j)):=by
 have c1:=q9v a y;have c2:=q6K c I;have c3:=z0T l;have w:=z3A a.1 c y.1;have u:=j6V a.2.2.1 l j;have A:vAut a=true->vTime a.2.2.1=true:=λh=>by unfold vAut at h;simp only [Ak] at h;exact h.2.2.1
 have hw:vAut a=true->vTime l=true->0<=j->j<=86400->witB a.2.2.1 l j=(decide (-j<=a.2.2.1-l) && decide (a.2.2.1-l<=j)):=λE B F D=>by unfold witB;rw [A E,B];unfold mIn;rw [decide_eq_true F,decide_eq_true D];rfl
 unfold chkS;clear A;generalize vAut a=x1 at*;generalize vPrin c=x2 at*;generalize vTime l=x3 at*;generalize witB a.2.2.1 l j=x4 at*;obtain ⟨n,s,t,m,k,q,d⟩:=a;dsimp only at*;refine q0s rfl rfl ?_;refine rQ fi23 ?_<;>try with_reducible exact True.intro
 repeat' (first
  | (refine q0b (c1) ?_;refine uQ 600 _ ?_;simp (maxSteps:=3000000) only [go_sem,↓zA,↓reduceIte,↓reduceDIte] <;>try simp only [zB])
  | (refine q0g (c1) ?_;refine uQ 600 _ ?_;simp (maxSteps:=3000000) only [go_sem,↓zA,↓reduceIte,↓reduceDIte] <;>try simp only [zB])
  | (refine q0n (c1) ?_;refine uQ 600 _ ?_;simp (maxSteps:=3000000) only [go_sem,↓zA,↓reduceIte,↓reduceDIte] <;>try simp only [zB])
  | (refine q0b (c2) ?_;refine uQ 600 _ ?_;simp (maxSteps:=3000000) only [go_sem,↓zA,↓reduceIte,↓reduceDIte] <;>try simp only [zB])
  | (refine q0g (c2) ?_;refine uQ 600 _ ?_;simp (maxSteps:=3000000) only [go_sem,↓zA,↓reduceIte,↓reduceDIte] <;>try simp only [zB])
  | (refine q0n (c2) ?_;refine uQ 600 _ ?_;simp (maxSteps:=3000000) only [go_sem,↓zA,↓reduceIte,↓reduceDIte] <;>try simp only [zB])
  | (refine q0b (c3) ?_;refine uQ 600 _ ?_;simp (maxSteps:=3000000) only [go_sem,↓zA,↓reduceIte,↓reduceDIte] <;>try simp only [zB])
  | (refine q0g (c3) ?_;refine uQ 600 _ ?_;simp (maxSteps:=3000000) only [go_sem,↓zA,↓reduceIte,↓reduceDIte] <;>try simp only [zB])
  | (refine q0n (c3) ?_;refine uQ 600 _ ?_;simp (maxSteps:=3000000) only [go_sem,↓zA,↓reduceIte,↓reduceDIte] <;>try simp only [zB])
  | (refine q0b (w) ?_;refine uQ 600 _ ?_;simp (maxSteps:=3000000) only [go_sem,↓zA,↓reduceIte,↓reduceDIte] <;>try simp only [zB])
  | (refine q0g (w) ?_;refine uQ 600 _ ?_;simp (maxSteps:=3000000) only [go_sem,↓zA,↓reduceIte,↓reduceDIte] <;>try simp only [zB])
  | (refine q0n (w) ?_;refine uQ 600 _ ?_;simp (maxSteps:=3000000) only [go_sem,↓zA,↓reduceIte,↓reduceDIte] <;>try simp only [zB])
  | (refine q0b (u) ?_;refine uQ 600 _ ?_;simp (maxSteps:=3000000) only [go_sem,↓zA,↓reduceIte,↓reduceDIte] <;>try simp only [zB])
  | (refine q0g (u) ?_;refine uQ 600 _ ?_;simp (maxSteps:=3000000) only [go_sem,↓zA,↓reduceIte,↓reduceDIte] <;>try simp only [zB])
  | (refine q0n (u) ?_;refine uQ 600 _ ?_;simp (maxSteps:=3000000) only [go_sem,↓zA,↓reduceIte,↓reduceDIte] <;>try simp only [zB])
  | (with_reducible refine And.intro ?_ ?_)
  | (with_reducible intro _))
 all_goals (grind)
theorem j7z(x:Int):PC Tryz.prog 203 [rI x] (rB false):=by refine q0s rfl rfl ?_;refine rQ fi203 ?_;trivial
def cmpI(x y:Int):Int:=if x<y then -1 else if y<x then 1 else 0
theorem j2D(x y:Int):PC Tryz.prog 175 [rI x,rI y] (rI (cmpI x y)):=by
 have c1:=j7z x;have c2:=j7z y;refine q0s rfl rfl ?_;refine rQ fi175 ?_<;>try with_reducible exact True.intro
 repeat' (first
  | (refine q0b (c1) ?_;refine uQ 600 _ ?_;simp (maxSteps:=3000000) only [go_sem,↓zA,↓reduceIte,↓reduceDIte] <;>try simp only [zB])
  | (refine q0g (c1) ?_;refine uQ 600 _ ?_;simp (maxSteps:=3000000) only [go_sem,↓zA,↓reduceIte,↓reduceDIte] <;>try simp only [zB])
  | (refine q0n (c1) ?_;refine uQ 600 _ ?_;simp (maxSteps:=3000000) only [go_sem,↓zA,↓reduceIte,↓reduceDIte] <;>try simp only [zB])
  | (refine q0b (c2) ?_;refine uQ 600 _ ?_;simp (maxSteps:=3000000) only [go_sem,↓zA,↓reduceIte,↓reduceDIte] <;>try simp only [zB])
  | (refine q0g (c2) ?_;refine uQ 600 _ ?_;simp (maxSteps:=3000000) only [go_sem,↓zA,↓reduceIte,↓reduceDIte] <;>try simp only [zB])
  | (refine q0n (c2) ?_;refine uQ 600 _ ?_;simp (maxSteps:=3000000) only [go_sem,↓zA,↓reduceIte,↓reduceDIte] <;>try simp only [zB])
  | (with_reducible refine And.intro ?_ ?_)
  | (with_reducible intro _))
 all_goals (grind [cmpI])
theorem z6G(a:Aut):PC Tryz.prog 98 [.agg (AutT.cells a)] (rI a.2.2.1):=by obtain ⟨n,s,t,m,k,q,d⟩:=a;refine q0s rfl rfl ?_;refine rQ fi98 ?_;trivial
theorem z7Z(a:Aut):PC Tryz.prog 99 [.agg (AutT.cells a)] (rI a.2.2.2.1):=by obtain ⟨n,s,t,m,k,q,d⟩:=a;refine q0s rfl rfl ?_;refine rQ fi99 ?_;trivial
end Go.Proofs.YthbcodbcndiapaaGreatDoor
namespace Go.Sx
open Go

variable {P:Program}
def PCE(P:Program)(f:FuncId)(args:List SV)(p:SV->Prop):Prop:=enters P f=true/\∀ (H:List SObj) (K:Out->List SObj->Prop),(∀s,p s->K (.ret s) H)->VCall P f args H K
theorem PCE.mono{f:FuncId}{args:List SV}{p q:SV->Prop}(h:PCE P f args p)(hq:∀s,p s->q s):PCE P f args q:=⟨h.1,λH K hk=>h.2 H K λs hs=>hk s (hq s hs)⟩
section
variable [Ghost] {AQ:Ex->List SV->List SObj->Prop}
end

section
variable {AQ:Ex->List SV->List SObj->Prop}
def q9a[Ghost]{b:Nat}{t:Ty}{x:t.den}{ag:Option Nat}{s:SV}{d:Option Tmp}{m:IM}(a:(b,(⟨t,x⟩:Sigma Ty.den))∈datList)(w:SV.ofT ag t x=some s)(l:ag=none\/ag=some t.size)(j:SoundI P AQ {m with tmps:=putT m.tmps d s}):ZldI P AQ ag b 0 d m:=by rintro E C _ ⟨⟨u,_⟩,_⟩;exact ⟨s,.inr ⟨t,x,(u.dat _ a).2,w,l⟩,j⟩
end

variable {P:Program}

def Ty.bare:Ty->Bool
 |.slice _=>false
 |.ptr _=>false
 |.clo _ _=>false
 |.clp _ _=>false
 |.mbs _=>false
 |.prod a b=>a.bare&& b.bare
 |.arr _ t=>t.bare
 |_=>true
theorem q5h{I I':Nat->Prop}{w w':World}:∀ (t:Ty) (x:t.den) (vs:List Value),t.bare=true->t.rel I w x vs->t.rel I' w' x vs
 |.u8,_,_,_,h=>h
 |.int _,_,_,_,h=>h
 |.bool,_,_,_,h=>h
 |.str,_,_,_,h=>h
 |.slice _,_,_,hb,_=>by cases hb
 |.prod a b,x,vs,hb,h=>by simp only [Ty.bare,Ak] at hb;obtain ⟨A,u,rfl,y,l⟩:=h;exact ⟨A,u,rfl,q5h a _ _ hb.1 y,q5h b _ _ hb.2 l⟩
 |.unit,_,_,_,h=>h
 |.arr n t,xs,vs,hb,h=>by obtain ⟨E,vss,rfl,j,h⟩:=h;exact ⟨E,vss,rfl,j,λi x us D B=>q5h t _ _ hb (h i x us D B)⟩
 |.ptr _,_,_,hb,_=>by cases hb
 |.clo _ _,_,_,hb,_=>by cases hb
 |.clp _ _,_,_,hb,_=>by cases hb
 |.mbs _,_,_,hb,_=>by cases hb
def SObj.bare:SObj->Bool
 |.dead=>true
 |.row t _=>t.bare
 |_=>false
variable {C:Cx}{h:Nat}
def z3O{C':Cx}:∀ {o:SObj},o.bare=true->C'.ρ h=C.ρ h->(o.live=true->∀b,C.ρ h=some b->C'.w.heap[b]?=C.w.heap[b]?)->objDen C h o->objDen C' h o
 |.dead,_,_,_,_=>trivial
 |.row t xs,hb,hr,hw,d=>by
  rcases d with ⟨a,j⟩ | ⟨b,l,T,fz,a,j,F,B,D⟩
  . exact .inl ⟨hr.trans a,j⟩
  refine .inr ⟨b,l,T,fz,hr.trans a,(hw rfl b a).trans j,F,B,λi x I=> ?_⟩;obtain ⟨us,A,y⟩:=D i x I;exact ⟨us,q5h t _ _ hb A,λk u E=>by rw [<-y k u E];exact World.cell?_of_block (hw rfl b a)⟩
 |.cells ..,hb,_,_,_=>by cases hb
 |.map ..,hb,_,_,_=>by cases hb
 |.mark _,hb,_,_,_=>by cases hb
mutual
def SV.bare:SV->Bool
 |.raw _=>true
 |.dat t _=>t.bare
 |.agg l=>SV.bareL l
 |.tup l=>SV.bareL l
 |.any=>true
 |_=>false
def SV.bareL:List SV->Bool
 | []=>true
 |s :: l=>s.bare&& SV.bareL l
end
mutual
theorem z4k{C C':Cx}:∀ {s:SV} {v:Value},s.bare=true->s.den C v->s.den C' v
 |.any,_,_,_=>by rw [SV.den];trivial
 |.raw u,v,_,h=>by grind [SV.den]
 |.dat t x,v,hb,h=>by grind [SV.den,q5h,SV.bare]
 |.agg l,v,hb,h=>by rw [SV.den] at h⊢;obtain ⟨vs,a,j⟩:=h;exact ⟨vs,a,q7g (by grind [SV.bare]) j⟩
 |.tup l,v,hb,h=>by rw [SV.den] at h⊢;obtain ⟨vs,a,j⟩:=h;exact ⟨vs,a,q7g (by grind [SV.bare]) j⟩
 |.isl ..,_,hb,_=>by simp [SV.bare] at hb
 |.fsl ..,_,hb,_=>by simp [SV.bare] at hb
 |.iptr ..,_,hb,_=>by simp [SV.bare] at hb
 |.ptr ..,_,hb,_=>by simp [SV.bare] at hb
 |.rptr ..,_,hb,_=>by simp [SV.bare] at hb
 |.bld ..,_,hb,_=>by simp [SV.bare] at hb
 |.osl ..,_,hb,_=>by simp [SV.bare] at hb
 |.csl ..,_,hb,_=>by simp [SV.bare] at hb
 |.fn ..,_,hb,_=>by simp [SV.bare] at hb
 |.iface ..,_,hb,_=>by simp [SV.bare] at hb
 |.mp ..,_,hb,_=>by simp [SV.bare] at hb
 |.imap ..,_,hb,_=>by simp [SV.bare] at hb
theorem q7g{C C':Cx}:∀ {l:List SV} {vs:List Value},SV.bareL l=true->SV.denL C l vs->SV.denL C' l vs
 | [],_,_,h=>by grind [SV.denL]
 |s :: l,_,hb,h=>by rw [SV.denL] at h⊢;simp only [SV.bareL,Ak] at hb;obtain ⟨v,us,rfl,a,j⟩:=h;exact ⟨v,us,rfl,z4k hb.1 a,q7g hb.2 j⟩
end

def RLies(t:Ty)(xs:List t.den)(off:Nat)(t2:Ty)(y:t2.den):Prop:=
 (∃x,xs= [x]/\t.get x off t2.size=some ⟨t2,y⟩)\/(t2= .arr xs.length t/\off=0/\t.size=1/\0<xs.length/\HEq y xs)
inductive Bor (h:Nat) (t:Ty) (xs:List t.den):SV->SV->Prop where
 |keep {s:SV} (hb:s.bel h=true):Bor h t xs s s
 |bld {n:Nat} (hn:n<=xs.length):Bor h t xs (.bld h t n) (.isl t (xs.take n))
 |osl {off n:Nat} (hn:off+n<=xs.length):Bor h t xs (.osl h t off n) (.isl t ((xs.drop off).take n))
 |csl {e:Ty} {k i n:Nat} {ys:List e.den} {p:Prop} (ho:ownPart e k i n (.row t xs)=some (ys,p)) (hp:p) (hn:n<=1125899906842624):Bor h t xs (.csl h e k i n) (.isl e ys)
 |ptr {t' t2:Ty} {i k:Nat} {y:t2.den} (hr:RLies t xs (i*t'.size+k) t2 y):Bor h t xs (.rptr h t' i k) (.iptr t2 y 0)
inductive BorL (h:Nat) (t:Ty) (xs:List t.den):List SV->List SV->Prop where
 |nil:BorL h t xs [] []
 |cons {s s':SV} {l l':List SV} (h1:Bor h t xs s s') (h2:BorL h t xs l l'):BorL h t xs (s :: l) (s' :: l')

variable {H:List SObj}
variable {t:Ty}{xs:List t.den}
theorem rlies{off:Nat}{a:Ty}{y:a.den}(l:Wd C H)(u:H[h]?=some (.row t xs))(D:RLies t xs off a y):∃b,C.ρ h=some b/\Lies C.I C.w b off a y:=by
 rcases D with ⟨x,rfl,J⟩ | ⟨e,rfl,F,A,B⟩
 . obtain ⟨b,E,j⟩:=q1O (i:=0) l u rfl;rw [Ct] at j;have h2:=(z0Y t J j).1
   simp_all
 subst e;cases B;obtain ⟨b,E,j⟩:=q9m (i:=0) (m:=xs.length) l u F (by omega) A
 simp_all
variable {s:SV}{v:Value}
theorem j3R(D:Wd C H)(E:H[h]?=some (.row t xs))(u:xs.length<=1125899906842624){N:SV}(a:Bor h t xs s N)(l:s.den C v):N.den {C.frz h with n:=h} v:=by
 have O:Keeps C.I (C.frz h).I C.w C.w:=λb a=>⟨.inl a,rfl⟩;cases a with
 |keep a=>have L:=q9h (σ:=λh=>h) a (by rw [z3D];exact l);exact q0Y (C:=C.ren (λh=>h) h) (C':={C.frz h with n:=h}) ⟨Ac _,λ_ _=>rfl,λb (a:C.I b)=>⟨Or.inl a,rfl⟩,λ_ _ h=>h⟩ L
 |bld hn=>have:=q5E D E u (off:=0) (by omega) (q5U l);rw [Ap] at this;exact q0B (C:=C.frz h) (Keeps.refl _ _) rfl this
 |osl hn=>exact q0B (C:=C.frz h) (Keeps.refl _ _) rfl (q5E D E u hn l)
 |csl ho hp hn=>
  rename_i e k i n ys p;obtain ⟨L,R⟩:=q8R D E ho hp;simp only [SV.den] at l;obtain ⟨_,A,c,rfl,U,l⟩:=l;rw [SV.den.eq_def];refine ⟨A,n,c,rfl,L.symm,U,hn,?_⟩;rcases l with h0| ⟨b,a,rfl⟩
  . simp_all
  refine .inr ⟨b,_,rfl,.inr a,λj y S=> ?_⟩;obtain ⟨us,J,F⟩:=R b a j y S;exact ⟨us,Ty.rel_keep O _ _ _ J,F⟩
 |ptr hr=>obtain ⟨b,a,us,J,F⟩:=rlies D E hr;obtain ⟨b',B,rfl⟩:=q3B l;rw [a] at B;cases B;rw [SV.den.eq_def];exact ⟨b,_,us,rfl,.inr a,Ty.rel_keep O _ _ _ J,F⟩
theorem j1H(w:Wd C H)(A:H[h]?=some (.row t xs))(a:xs.length<=1125899906842624){l u:List SV}(D:BorL h t xs l u):∀ {vs:List Value},SV.denL C l vs->SV.denL {C.frz h with n:=h} u vs:=by
 induction D with
 |nil=>grind [SV.denL]
 |cons B _ y=>intro vs j;rw [SV.denL] at j⊢;obtain ⟨v,us,rfl,d1,d2⟩:=j;exact ⟨v,us,rfl,j3R w A a B d1,y d2⟩
variable {i:Nat}
def z4F{l:List SObj}(h:l.all SObj.bare=true){o:SObj}(ho:l[i]?=some o):o.bare=true:=Bj.1 h o (BL ho)
variable {f:FuncId}{args:List SV}
theorem q8T{V:List SV}{H0 H1:List SObj}(hp:VCall P f V H0 λo' H'=>o'= .ret s/\H'=H1)(hl:H1.length=H0.length)(af:H0.all SObj.bare=true)(ag:H1.all SObj.bare=true)(hs:s.bare=true)
 (ac:xs.length<=1125899906842624)(hb:BorL H0.length t xs args V):VCall P f args (H0++ [.row t xs]) λo' H'=>o'= .ret s/\H'=H1++ [.row t xs]:=by
 intro C vs S ht hv;have hH:(H0++ [SObj.row t xs])[H0.length]?=some (.row t xs):=by simp_all
 have hn:C.n=H0.length+1:=by rw [S.n];simp
 have F:∀ {i o},H0[i]?=some o->(H0++ [SObj.row t xs])[i]?=some o:=λhi=>by rw [As (Am.1 hi).1];exact hi
 have A:∀b,OwnB {C.frz H0.length with n:=H0.length} H0 b->OwnB C (H0++ [.row t xs]) b/\C.ρ H0.length≠some b:=by
  rintro b ⟨i,o,O,B,X⟩;refine ⟨⟨i,o,F O,B,X⟩,λe=> ?_⟩;have:=S.inj i H0.length o _ b (F O) hH B rfl X e
  simp_all
 have ae:Wd {C.frz H0.length with n:=H0.length} H0:=by
  refine ⟨rfl,λi o O=>z3O (C:=C) (z4F af O) rfl (λ_ _ _=>rfl) (S.obj i o (F O)),λb a=> ?_,λi j o o' b O Z B N l L=>S.inj i j o o' b (F O) (F Z) B N l L,λb a=> ?_⟩
  . obtain ⟨l,L⟩:=A b a;exact ⟨λh=>h.elim (S.own b l).1 L,(S.own b l).2⟩
  exact a.elim (S.imm b) λh=>(S.own b ⟨_,_,hH,rfl,h⟩).2
 refine (hp {C.frz H0.length with n:=H0.length} vs ae (ht.sub rfl (λb a=>.inl a) λb a=>(A b a).1) (j1H S hH ac hb hv)).mono ?_;rintro e w' ⟨o,H',C',⟨rfl,rfl⟩,rfl,E,R,v,rfl,hd⟩;have hρ:∀i,i<H0.length->C'.ρ i=C.ρ i:=λi hi=>R.evo.ρ i hi
 let D:Cx:={ρ:=C.ρ,n:=H0.length+1,I:=λb=>C'.I b/\C.ρ H0.length≠some b,w:=C'.w}
 have hK:Keeps C.I D.I C.w C'.w:=λb a=>⟨⟨(R.evo.I b (.inl a)).1,λe=>(S.own b ⟨_,_,hH,rfl,e⟩).1 a⟩,(R.evo.I b (.inl a)).2⟩;have Y:Evo C D:=⟨by grind,λ_ _=>rfl,hK,R.evo.sz⟩
 have y:∀ {i W},(H'++ [SObj.row t xs])[i]?=some W->(i<H0.length/\H'[i]?=some W)\/(i=H0.length/\W= .row t xs):=λ{i W} hi=>by grind
 have J:∀b,C.ρ H0.length=some b->C'.I b:=λb a=>(R.evo.I b (.inr a)).1;have U:∀b,OwnB D (H'++ [.row t xs]) b->OwnB C' H' b\/C.ρ H0.length=some b:=by
  rintro b ⟨i,W,O,B,X⟩;rcases y O with ⟨l,L⟩ | ⟨rfl,_⟩
  . exact .inl ⟨i,W,L,B,(hρ i l).trans X⟩
  grind
 refine ⟨.ret s,_,D,⟨rfl,rfl⟩,rfl,⟨?_,λi W O=> ?_,λb a=> ?_,λi j W ab b O Z B N l L=> ?_,λb a=>E.imm b a.1⟩,
  ⟨Y,R.size,R.os,R.tape,R.output,λb l L=>R.frame b l λhq=>L (A b hq).1,λb a=> ?_,λb a=> ?_,λn _ hn'=> ?_⟩,v,rfl,z4k hs hd⟩
 . grind
 . rcases y O with ⟨l,L⟩ | ⟨rfl,rfl⟩
   . exact z3O (C:=C') (C':=D) (z4F ag L) (hρ i l).symm (λ_ _ _=>rfl) (E.obj i W L)
   exact q0z (C':=D) hK _ rfl (λb a=>(R.evo.I b (.inr a)).2) (q0f Y) (S.obj _ _ hH)
 . rcases U b a with l|l
   . exact ⟨λh=>(E.own b l).1 h.1,(E.own b l).2⟩
   exact ⟨λh=>h.2 l,E.imm b (J b l)⟩
 . rcases y O with ⟨g1,g2⟩ | ⟨rfl,rfl⟩ <;>rcases y Z with ⟨aa,ad⟩ | ⟨rfl,rfl⟩
   . exact E.inj i j W ab b g2 ad B N ((hρ i g1).trans l) ((hρ j aa).trans L)
   . exact absurd (J b L) (E.own b ⟨i,W,g2,B,(hρ i g1).trans l⟩).1
   . exact absurd (J b l) (E.own b ⟨j,ab,ad,N,(hρ j aa).trans L⟩).1
   rfl
 . rcases R.immNew b a.1 with (q|q) | ⟨q|q,u⟩
   . exact .inl q
   . grind
   . exact .inr ⟨.inl q,u⟩
   grind
 . rcases U b a with l|l
   . exact orMap (R.ownNew b l) id λq=>(A b q).1
   exact .inr ⟨_,_,hH,rfl,l⟩
 exfalso;cases H0<;>simp_all [SObj.bare]
def z3c{args':List SV}{H0 H1:List SObj}(hp:PE P f args' H0 (.ret s) H1)(hl:H1.length=H0.length)(hb0:H0.all SObj.bare=true)(hb1:H1.all SObj.bare=true)(hs:s.bare=true)
 (hlen:xs.length<=1125899906842624)(hb:BorL H0.length t xs args args'):PE P f args (H0++ [.row t xs]) (.ret s) (H1++ [.row t xs]):=⟨hp.1,q8T hp.2 hl hb0 hb1 hs hlen hb⟩
theorem q6t{args':List SV}(hp:PC P f args' s)(hs:s.bare=true)(hlen:xs.length<=1125899906842624)(hb:BorL 0 t xs args args'):PE P f args [.row t xs] (.ret s) [.row t xs]:=
 ⟨hp.1,q8T (H0:=[]) (H1:=[]) (hp.2 [] _ ⟨rfl,rfl⟩) rfl rfl rfl hs hlen hb⟩
variable {α:Type}
theorem z6P(x:α):Option.getD (none:Option α) x=x:=rfl
theorem z6k(x y:α):Option.getD (some y) x=y:=rfl
def j3G{x y:t.den}:SV.leA (.dat t x) (.dat t y)=(x=y):=by simp [SV.leA]
def z9L{t':Ty}{k j a k':Nat}:SV.leA (.rptr h t i k) (.rptr j t' a k')=(h=j/\t=t'/\i=a/\k=k'):=by simp [SV.leA]
attribute [go_sem] z6P z6k j3G z9L
section

variable [Ghost] {P:Program} {AQ:Ex->List SV->List SObj->Prop} {k0:Nat} {k:List IT} {k':List It} {t:List SV} {H:List SObj}
variable {all:Array Oper} {G:List Nat} {o:Oper} {ev:Operand->SV} {K:Out->List SObj->Prop}

end
section

variable [Ghost] {P:Program} {AQ:Ex->List SV->List SObj->Prop} {k0:Nat} {k:List IT} {k':List It} {t:List SV} {H:List SObj}
variable {all:Array Oper} {G:List Nat} {o:Oper}

end

variable {P:Program} {AQ:Ex->List SV->List SObj->Prop} {k0:Nat} {k:List It} {t:List SV} {H:List SObj}

def flatC:Code->List Code
 |.seq a b=>flatC a++flatC b
 |c=>[c]
def q4z[Ghost]{F:Fence}{n:Nat}{E:EnD}{Q:Exit->Act->World->Prop}{id:Nat}{a:Act}{w:World}{k:List It}:∀ (l:List Code),exitT F n P E Q id (l.map .code++k) a w ↔ exitT F n P E Q id k a w
 | []=>Iff.rfl
 |c :: l=>by simp only [Az,Ay,exitT];exact q4z l
def q4f[Ghost]{F:Fence}{n:Nat}{E:EnD}{Q:Exit->Act->World->Prop}:∀ (c:Code) (k:List It) (a:Act) (w:World),wpT F n P E Q ((flatC c).map .code++k) a w->wpT F n P E Q (.code c :: k) a w
 |.seq x y,k,a,w,h=>by
  rw [flatC,Bn,List.append_assoc] at h;have l:=q4f x _ a w h;simp only [wpT] at l⊢;refine wpIn_seq (wpIn_mono l λe a w j=> ?_);cases e with
  |normal=>have u:=q4f y k a w j;simp only [wpT] at u;exact u
  |exit id=>exact (q4z _).1 j
  |_=>exact j
 |.skip,_,_,_,h=>h
 |.region ..,_,_,_,h=>h
 |.cond ..,_,_,_,h=>h
 |.block ..,_,_,_,h=>h
 |.loop _,_,_,_,h=>h
 |.rangeFunc ..,_,_,_,h=>h
 |.exit _,_,_,_,h=>h
 |.scope _,_,_,_,h=>h
 |.label _,_,_,_,h=>h
 |.goto _,_,_,_,h=>h
 |.ret,_,_,_,h=>h
 |.refuse ..,_,_,_,h=>h

def compAll(P:Program):List Code->Option (List IC)
 | []=>some []
 |c :: cs=>match comp P c,compAll P cs with
  |some x,some l=>some (x :: l)
  |_,_=>none
theorem q5T:∀ {cs:List Code} {l:List IC},compAll P cs=some l->cs.map (comp P)=l.map some
 | [],l,h=>by cases h;rfl
 |c :: cs,l,h=>by
  unfold compAll at h;split at h
  . rename_i x l' a j;cases h;simp only [Az,a,q5T j]
  cases h
def splitX(P:Program):List Code->Option (List IC×Array Oper×List IC)
 | []=>none
 |c :: cs=>match comp P c with
  |some (.hnd all)=>match compAll P cs with
   |some l=>some ([],all,l)
   |none=>none
  |some x=>match splitX P cs with
   |some (l,r,l')=>some (x :: l,r,l')
   |none=>none
  |none=>none
theorem z1L:∀ {cs:List Code} {l:List IC} {r:Array Oper} {u:List IC},splitX P cs=some (l,r,u)->∃ (j:List Code) (id:Nat) (a:List Code),cs=j++ .region id r true :: a/\j.map (comp P)=l.map some/\a.map (comp P)=u.map some
 | [],_,_,_,h=>by cases h
 |c :: cs,l,r,u,h=>by
  unfold splitX at h;split at h
  . rename_i all y;obtain ⟨id,rfl⟩:=q0G y;split at h
    . rename_i A w;cases h;exact ⟨[],id,cs,rfl,rfl,q5T w⟩
    cases h
  . split at h
    . rename_i y _ _ A r1 l1' w;cases h;obtain ⟨j,id,a,rfl,g1,g2⟩:=z1L w;grind
    cases h
  cases h
structure XI where
 ntmps:Nat
 results:List ResultVar
 pre:List IC
 reg:Array Oper
 post:List IC
def xinfo(P:Program)(f:FuncId):Option XI:=
 match P.funcs[f]? with
 |some fn=>match fn.body with
  |some c=>match splitX P (flatC c) with
   |some (l,r,l')=>if fn.name== "runtime.NumGoroutine" then none else some ⟨fn.ntmps,fn.results.toList,l,r,l'⟩
   |none=>none
  |none=>none
 |none=>none
def xreg(P:Program)(f:FuncId):Array Oper:=match xinfo P f with
 |some xi=>xi.reg
 |none=> #[]

def rel_codes':∀ {cs:List Code} {l:List IC},cs.map (comp P)=l.map some->RelT P (l.map .ic) (cs.map .code)
 | [],[],_=>rfl
 |c :: cs,ic :: l,h=>by simp only [Az,List.cons.injEq] at h;exact ⟨c,_,rfl,h.1,rel_codes' h.2⟩
 | [],_ :: _,h=>by simp at h
 |_ :: _,[],h=>by simp at h
theorem q3F:∀ (cs:List Code),noStop (cs.map .code)=true
 | []=>rfl
 |_ :: cs=>q3F cs
def AtReg(P:Program)(AQ:Ex->List SV->List SObj->Prop)(k0:Nat)(xi:XI)(t:List SV)(H:List SObj):Prop:=
 ∀ (id:Nat) (k:List It),noStop k=true->RelT P (xi.post.map .ic) k-> @Sound noGhost P AQ ⟨k0,.code (.region id xi.reg true) :: k,t,H⟩
theorem j8P{j:XI}{K:Out->List SObj->Prop}(h:xinfo P f=some j)
 (U: @SoundI noGhost P (retF P j.results K) ⟨H.length,j.pre.map .ic++ [.stop (AtReg P (retF P j.results K) H.length j)],args++List.replicate (j.ntmps-args.length) .any,H⟩):VC P f args H K:=by
 unfold xinfo at h;split at h
 . rename_i fn J;split at h
   . rename_i c S;split at h
     . rename_i l r l' A;split at h
       . cases h
       rename_i hn;cases h;refine ⟨by grind [enters],?_⟩;have B:retQ P fn K=retF P fn.results.toList K:=by funext e t H;rfl
       obtain ⟨F,id,u,D,N,L⟩:=z1L A;refine q4t J S ?_;rw [B];intro E r n C a I y;refine q4f c [] a C.w ?_;rw [Ad,D,Bn];have R:=q0e U (q4E N) E r n C a I y;refine q3U (Q1:=conc E (retF P fn.results.toList K)) (λe a w _ h=>h) (λid a w ⟨_,_,_,B,_⟩=>B) (λa C t H O y=> ?_) F a C.w R;exact O id (u.map .code) (q3F u) (rel_codes' L) E r n C a I y
     cases h
   cases h
 cases h

variable {P:Program} {AQ:Ex->List SV->List SObj->Prop} {k0:Nat}

/- Values that hold nothing immutable. -/
mutual
def SV.noI:SV->Bool
 |.any|.raw _|.ptr .. |.rptr .. |.bld .. |.osl .. |.csl .. |.mp _=>true
 |.agg l=>SV.noIL l
 |.tup l=>SV.noIL l
 |.fn _ a b=>SV.noIL a&& SV.noIL b
 |.iface _ x=>SV.noI x
 |_=>false
def SV.noIL:List SV->Bool
 | []=>true
 |s :: l=>SV.noI s&& SV.noIL l
end
mutual
theorem z8W{C:Cx}{I:Nat->Prop}:∀ {s:SV} {v:Value},s.noI=true->s.den C v->s.den {C with I:=I} v
 |.any,_,_,_=>by rw [SV.den];trivial
 |.raw u,v,_,h=>by grind [SV.den]
 |.isl ..,_,h,_=>by simp [SV.noI] at h
 |.fsl ..,_,h,_=>by simp [SV.noI] at h
 |.iptr ..,_,h,_=>by simp [SV.noI] at h
 |.dat ..,_,h,_=>by simp [SV.noI] at h
 |.imap ..,_,h,_=>by simp [SV.noI] at h
 |.ptr h off,v,_,d=>by grind [SV.den]
 |.rptr h t i k,v,_,d=>by grind [SV.den]
 |.bld h t n,v,_,d=>by grind [SV.den]
 |.osl h t off n,v,_,d=>by grind [SV.den]
 |.csl h t k i n,v,_,d=>by grind [SV.den]
 |.mp h,v,_,d=>by grind [SV.den]
 |.agg l,v,h,d=>by rw [SV.den] at d⊢;obtain ⟨vs,a,j⟩:=d;exact ⟨vs,a,q4F (by grind [SV.noI]) j⟩
 |.tup l,v,h,d=>by rw [SV.den] at d⊢;obtain ⟨vs,a,j⟩:=d;exact ⟨vs,a,q4F (by grind [SV.noI]) j⟩
 |.fn f l1 l2,v,h,d=>by rw [SV.den] at d⊢;obtain ⟨B,A,a,w,y⟩:=d;simp [SV.noI] at h;exact ⟨B,A,a,q4F h.1 w,q4F h.2 y⟩
 |.iface T x,v,h,d=>by rw [SV.den] at d⊢;obtain ⟨u,a,w⟩:=d;exact ⟨u,a,z8W (by grind [SV.noI]) w⟩
theorem q4F{C:Cx}{I:Nat->Prop}:∀ {l:List SV} {vs:List Value},SV.noIL l=true->SV.denL C l vs->SV.denL {C with I:=I} l vs
 | [],_,_,h=>by grind [SV.denL]
 |s :: l,_,hc,h=>by rw [SV.denL] at h⊢;obtain ⟨v,us,rfl,a,j⟩:=h;simp [SV.noIL] at hc;exact ⟨v,us,rfl,z8W hc.1 a,q4F hc.2 j⟩
end
def SObj.noI:SObj->Bool
 |.cells _ cs=>SV.noIL cs
 |.row t _=>t.flat
 |.map _ _ vs=>SV.noIL vs
 |_=>true
theorem j1q{l:List α}{v:α}(h:l[i]?=some v):l.set i v=l:=by apply AE;grind
theorem TabT.flat{C C':Cx}{H H':List SObj}(D:(datList.all λe=>e.2.1.flat)=true)(h:TabT C H)(e:C'.w=C.w)(A:∀b,OwnB C' H' b->OwnB C H b):TabT C' H' where
 tab:=λx a=>by obtain ⟨l,T,fz,B⟩:=h.tab x a;exact ⟨⟨by simp_all,λy=>l.2 (A _ y)⟩,T,fz,by simp_all⟩
 dat:=λx a=>by
  obtain ⟨l,us,B,h3⟩:=h.dat x a;refine ⟨⟨by simp_all,λy=>l.2 (A _ y)⟩,us,Ty.rel_flat _ _ _ (Bj.1 D x a) B,λj u hu=> ?_⟩
  simp_all
variable {q:Nat->Prop}{w0:World}{G:List Nat}{d:Option Tmp}
def j6r{m:IM}(hp:PCZ q w0 P f args s)(h: @SoundI (frzG q w0) P AQ {m with tmps:=putT m.tmps d s}): @CallR (frzG q w0) P AQ G f args d m:=
 ⟨hp.1,(hp.2 _ _ ⟨λ_=>SameG.refl _ _,h⟩).g⟩
def j0u{Ds:List Nat}{q:Bool}{l B N:Nat}{J:Nat->(Nat->Prop)->World->(Nat->Prop)->Prop}{vw:Nat->Nat->List SV->List SObj->Prop}{T:List SObj}(T':List SObj){k:List IT}
 (hJ:FJ B J)(yg:YG P l B N J vw)(hi:i<N)(hh:∀n,∃args' new,vw i n args' new/\Hand n (.mark i :: T) (.mark i :: T') args args' new)
 (hk:∀b:Bool,(q=true->SameG G (.mark i :: T) (.mark (if b then i+1 else N+1+i) :: T'))/\ @SoundI (topG (yFG hJ) Ds) P AQ ⟨k0,k,putT t d (.raw (.bool b)),.mark (if b then i+1 else N+1+i) :: T'⟩): @YldR (topG (yFG hJ) Ds) P AQ q G l args d ⟨k0,k,t,.mark i :: T⟩:=z4b hJ yg hi hh hk

variable {P:Program} {AQ:Ex->List SV->List SObj->Prop} {k0:Nat}

theorem j4z{op:Op}{t:Ty}{a:Nat}{x y:Operand}(h:compOp P op=some (.app t a x y)):∃ (c:Call) (tS tX e:TypeId) (i:TypeInfo) (z:Value) (l:Bool),op= .call c/\c.callee= .builtin .append/\c.args= #[x,y]/\c.argTypes= #[tS,tX]/\
 P.underlying tS=some (.slice e)/\srcType P tX=some l/\P.info? e=some i/\a=i.bytes/\i.size=t.size/\i.zero=some z/\z.cells.size=t.size:=by
 unfold compOp at h;repeat' split at h
 all_goals first
  |contradiction
  | (simp only [Option.some.injEq,IOp.app.injEq] at h;obtain ⟨rfl,rfl,rfl,rfl⟩:=h;rename_i j;exact ⟨_,_,_,_,_,_,_,rfl,by assumption,Array.toList_inj.1 (by assumption),Array.toList_inj.1 (by assumption),by assumption,by assumption,by assumption,rfl,j.1,by assumption,j.2⟩)
  | (simp only [AL,Al,Option.some.injEq,reduceCtorEq,and_false,exists_false] at h;done)
  | (simp [AL] at h;done)

variable {td:List IT}{tm:List SV}
theorem j1d{t t':Ty}{Z d:Nat}{l:List OpI}{x y:Operand}{xs:List t.den}(R:t.den->t'.den->Prop)(aa:t'.size=t.size)
 (hf:∀ (z:t.den) us,t.rel q w0 z us->∃z',R z z'/\∀I w,t'.rel I w z' us)(hx:evT tm x= .bld h t 0)(hH:H[h]?=some (.row t []))(hy:evT tm y= .raw v)(hv:Sl q w0 t xs v)(hb:xs.length*Z<=140737488355328)
 (hk:∀ys:List t'.den,ys.length=xs.length->(∀i (B:i<xs.length),∃y,ys[i]?=some y/\R xs[i] y)-> @SoundI (frzG q w0) P AQ ⟨k0,.ops l :: td,putT tm (some d) (.bld H.length t' xs.length),H.set h .dead++ [.row t' ys]⟩): @SoundI (frzG q w0) P AQ ⟨k0,.ops (⟨some d,.app t Z x y,none⟩ :: l) :: td,tm,H⟩:= @q0d (frzG q w0) P AQ k0 tm H _ (λtd' hr=>by
 obtain ⟨all,L,r,rfl,ho,hr⟩:=hr;cases L with
 |nil=>exact ho.elim
 |cons i L=>
  obtain ⟨⟨o,aq,ag⟩,ho⟩:=ho;obtain ⟨U,hd⟩:=q0D ag;simp only at U hd;obtain ⟨c,tS,tX,e,ti,z,bb,hop,hcal,ha,hty,ht,aw,B,rfl,h1,h2,h3⟩:=j4z U;refine @q4X (frzG q w0) P AQ k0 r tm H all i L o aq ((q0x ag).1 rfl) ?_;intro E C rr n a next Q W hg ab ac hpan
  have hz:ZInv q w0 C H:=hg.2;have al:=ab x (by grind [Op.operands,Call.operands]);have ay:=ab y (by grind [Op.operands,Call.operands]);rw [hx] at al;rw [hy,SV.den] at ay;have hlt:h<H.length:=(Am.1 hH).1
  -- the empty row, as one of the other type
  have F:∀ {j:Nat} {o':SObj},(H.set h (.row t' []))[j]?=some o'->(j=h/\o'= .row t' [])\/(j≠h/\H[j]?=some o'):=λ{j o'} O=>by grind
  have S:∀b,OwnB C (H.set h (.row t' [])) b->OwnB C H b:=by
   rintro b ⟨j,o',V,hl,J⟩;rcases F V with ⟨rfl,rfl⟩ | ⟨_,O⟩
   . exact ⟨j,_,hH,rfl,J⟩
   exact ⟨j,o',O,hl,J⟩
  have am:Wd C (H.set h (.row t' [])):=by
   refine ⟨by rw [A9];exact W.n,λj o' V=> ?_,λb J=>W.own b (S b J),λj j' o1 o2 b ae ad hl1 hl2 ax ao=> ?_,W.imm⟩
   . rcases F V with ⟨rfl,rfl⟩ | ⟨_,O⟩
     . rcases W.obj j _ hH with ⟨N,_⟩ | ⟨b,an,T,fz,N,Y,g3,g4,_⟩
       . exact .inl ⟨N,rfl⟩
       exact .inr ⟨b,an,T,fz,N,Y,g3,by simp,λi x hx=>by simp at hx⟩
     exact W.obj j o' O
   have k1:∃p,H[j]?=some p/\p.live=true:=by
    rcases F ae with ⟨rfl,rfl⟩ | ⟨_,O⟩
    . exact ⟨_,hH,rfl⟩
    simp_all
   have k2:∃p,H[j']?=some p/\p.live=true:=by
    rcases F ad with ⟨rfl,rfl⟩ | ⟨_,O⟩
    . exact ⟨_,hH,rfl⟩
    simp_all
   obtain ⟨p1,k1,av⟩:=k1;obtain ⟨p2,k2,ar⟩:=k2;exact W.inj j j' p1 p2 b k1 k2 av ar ax ao
  have au:Ext ⟨C,H⟩ C (H.set h (.row t' [])):=⟨Evo.refl _,Ac _,rfl,rfl,rfl,λ_ _ _=>rfl,λ_ h=>.inl h,λb J=>.inr (S b J),λm h0 hm=>by
   grind⟩
  have ak:(SV.bld h t' 0).den C (a.eval x):=by grind [SV.den]
  obtain ⟨A,cp,rfl,hA⟩:=hv.out;have ap:∃ys:List t'.den,ys.length=xs.length/\(∀i (B:i<xs.length),∃y,ys[i]?=some y/\R xs[i] y)/\∀ (I:Nat->Prop) (w:World),(∀b,q b->w.heap[b]?=w0.heap[b]?)->(ys= []\/∃b off,A=some ⟨b,off,none⟩/\rowAt I w t' ys b off):=by
   rcases hA with rfl| ⟨b,off,rfl,hA⟩
   . exact ⟨[],rfl,λi B=>absurd B (BT _),λ_ _ _=>.inl rfl⟩
   have U:∀i (B:i<xs.length),∃y,R xs[i] y/\∃vs,(∀I w,t'.rel I w y vs)/\q b/\∀k u,vs[k]?=some u->w0.cell? ⟨b,off+i*t.size+k,none⟩=some u:=λi B=>by obtain ⟨ai,vs,N,Y⟩:=hA i xs[i] (Af B);obtain ⟨z',r1,r2⟩:=hf _ vs N;exact ⟨z',r1,vs,r2,ai,Y⟩
   refine ⟨List.ofFn λi:Fin xs.length=>(U i i.2).choose,List.length_ofFn,λi B=>⟨(U i B).choose,by simp [B],(U i B).choose_spec.1⟩,λI w hq=>.inr ⟨b,off,rfl,λj y O=> ?_⟩⟩;obtain ⟨B,rfl⟩:=Am.1 O;rw [List.length_ofFn] at B;obtain ⟨_,vs,N,ai,Y⟩:=(U j B).choose_spec;exact ⟨vs,by simpa using N I w,λk u' hu=>by grind [World.cell?_of_block]⟩
  obtain ⟨ys,D,hR,aj⟩:=ap;have ah:∀X:Cx,(∀b,q b->X.w.heap[b]?=w0.heap[b]?)->Src P t' X (.slice A xs.length cp) ys:=λX hq=>by obtain ⟨af,N,Y⟩:=q1n (P:=P) (C:=X) (A:=A) (c:=cp) (aj X.I X.w hq);rw [D] at Y;exact ⟨af,N,by simp [Builtin.lenOf,D],by simp_all⟩
  have hxl:xs.length<=1125899906842624:=(Ty.rel_ok _ _ _ hv).1
  obtain ⟨rv,C',hrun,w1,w2,w3⟩:=q8E (P:=P) (ty:=o.type) (tS:=tS) (tX:=tX) (Hk:=(H.set h (.row t' [])).set h .dead) (xs:=([]:List t'.den)) (n:=0) am ak (by
   simp_all [dstOf]) rfl (ah C λb hb=>(hz b hb).2.2.2) (ah C.drew λb hb=>(hz b hb).2.2.2) ht aw B (h1.trans aa.symm) h2 (h3.trans aa.symm) (by simp_all) (by grind)
  rw [List.set_set,Ar] at w1 w2;simp only [CR,Ag,D,A9] at w3;have hk':= @q0e (frzG q w0) P AQ _ _ _ _ _ (hk ys D hR) ⟨all,L,r,rfl,ho,hr⟩;refine q6T (w':=C'.w) (v:=rv) (by simp_all) (.inl ?_) (ac (.bld H.length t' xs.length) rv _ C' (by simp_all) w1 (@Stp.of (frzG q w0) E C C' H _ (au.trans w2)) w3)
  simp_all [execOp,resolve,invoke,builtin]) rfl
theorem z8C[Ghost]{t t':Ty}{xs:List t.den}(g:t.den->t'.den)(h l n:Nat)(hp:plainT td=true)(hsz:t'.size=t.size)(V:H[h]?=some (.row t xs))(hs:tm[l]?=some (.bld h t n))
 (hg:∀z∈xs,∀I w us,t.rel I w z us->t'.rel I w (g z) us)(hk:SoundI P AQ ⟨k0,td,tm.set l (.bld h t' n),H.set h (.row t' (xs.map g))⟩):SoundI P AQ ⟨k0,td,tm,H⟩:=q0d (λtd' hr E rr m C a h0 L=>by
 have J:=L.wd;have hlt:h<H.length:=(Am.1 V).1;have B:∀ {j:Nat} {o':SObj},(H.set h (.row t' (xs.map g)))[j]?=some o'->(j=h/\o'= .row t' (xs.map g))\/(j≠h/\H[j]?=some o'):=λ{j o'} R=>by grind
 have D:∀b,OwnB C (H.set h (.row t' (xs.map g))) b->OwnB C H b:=by
  rintro b ⟨j,o',F,hl,y⟩;rcases B F with ⟨rfl,rfl⟩ | ⟨_,R⟩
  . exact ⟨j,_,V,rfl,y⟩
  exact ⟨j,o',R,hl,y⟩
 have aa:Wd C (H.set h (.row t' (xs.map g))):=by
  refine ⟨by rw [A9];exact J.n,λj o' F=> ?_,λb y=>J.own b (D b y),λj j' o1 o2 b A N S Y ad ab=> ?_,J.imm⟩
  . rcases B F with ⟨rfl,rfl⟩ | ⟨_,R⟩
    . rcases J.obj j _ V with ⟨g1,X⟩ | ⟨b,ac,T,fz,g1,X,g3,g4,g5⟩
      . exact .inl ⟨g1,by rw [X];rfl⟩
      refine .inr ⟨b,ac,T,fz,g1,X,g3,by simp_all,λi x hx=> ?_⟩;rw [AF] at hx;cases U:xs[i]? with
      |none=>simp_all
      |some u=>rw [U] at hx;cases hx;obtain ⟨us,q1,q2⟩:=g5 i u U;grind
    exact J.obj j o' R
  have key:∀ {j:Nat} {o1:SObj},(H.set h (.row t' (xs.map g)))[j]?=some o1->o1.live=true->∃p,H[j]?=some p/\p.live=true:=λ{j o1} A S=>by
   rcases B A with ⟨rfl,rfl⟩ | ⟨_,R⟩
   . exact ⟨_,V,rfl⟩
   simp_all
  obtain ⟨p1,k1,Z⟩:=key A S;obtain ⟨p2,k2,W⟩:=key N Y;exact J.inj j j' p1 p2 b k1 k2 Z W ad ab
 have O:Ext ⟨C,H⟩ C (H.set h (.row t' (xs.map g))):=⟨Evo.refl _,Ac _,rfl,rfl,rfl,λ_ _ _=>rfl,λ_ h=>.inl h,λb y=>.inr (D b y),λm h0 hm=>by
  grind⟩
 obtain ⟨v,hv,hdv⟩:=q1v L.tmps hs;have ht:SV.denL C (tm.set l (.bld h t' n)) a.tmps.toList:=by
  have:=q1u (i:=l) (s:=.bld h t' n) (v:=v) L.tmps (by
   simp_all [SV.den])
  grind [j1q]
 exact q0e hk hr E rr m C a h0 ⟨aa,L.ext.trans O,L.defs.next O,ht⟩) hp
def flatI:IC->List IC
 |.seq a b=>flatI a++flatI b
 |c=>[c]
theorem q8G:∀ {a l:List IT} {u j:List It},(∀x∈a,∃c,x= .ic c)->RelT P a u->RelT P l j->RelT P (a++l) (u++j)
 | [],_,_,_,_,h,h2=>by cases h;exact h2
 |x :: a,l,u,j,hc,h,h2=>by obtain ⟨c,rfl⟩:=hc x (by simp);obtain ⟨y,r,rfl,A,w⟩:=h;exact ⟨y,r++j,rfl,A,q8G (λx B=>hc x (by simp [B])) w h2⟩
theorem rel_flat:∀ (j:IC) {c:Code},comp P c=some j->RelT P ((flatI j).map .ic) ((flatC c).map .code):=by
 intro j;induction j with
 |seq x y ihx ihy=>intro c h;obtain ⟨a,b,rfl,h1,h2⟩:=q0G h;grind [flatI,flatC,q8G]
 |_=>
  intro c h;have l:flatC c= [c]:=by
   cases c with
   |seq a b=>simp only [comp] at h;split at h<;>cases h
   |_=>rfl
  rw [l];exact ⟨c,[],rfl,h,rfl⟩

variable {P:Program} {AQ:Ex->List SV->List SObj->Prop} {k0:Nat} {k:List It} {t:List SV} {H:List SObj}

def z2Z{ty:Ty}{x:ty.den}{ws:List Value}(l:(datList.all λe=>e.2.1.flat)=true)(y:TabT C H)(D:ty.known=true)(N:Wd C H)(a:ty.ok x)(W:ty.rel C.I C.w x ws)(U:∀ (q:Nat->Prop) (w0:World) (vs:List Value),ty.rel q w0 x vs->PCZ q w0 P f [.agg (rawL vs)] (.agg (ty.cells x))):
 Calls P f #[.agg ws.toArray] C.w λe w'=>∃ (q:Nat->Prop) (vs:List Value),e= .returned (.agg vs.toArray)/\ty.rel q w' x vs/\(∀b,q b->C.w.heap.size<=b/\b<w'.heap.size/\Unf w' b)/\Wd {C with w:=w'} H/\Ext ⟨C,H⟩ {C with w:=w'} H:=by
 let J:Cx:={C with I:=λ_=>False,n:=0}
 have L:Wd J []:=⟨rfl,λh o a=>by simp at a,λb ⟨h,o,a,_⟩=>by simp at a,λh h' o o' b a=>by simp at a,λb j=>j.elim⟩
 have S:ZInv C.I C.w J []:=λb j=>⟨N.imm b j,λh=>h,λ⟨h,o,a,_⟩=>by simp at a,rfl⟩
 have R:=(U C.I C.w ws W).2 [] (λo H'=>o= .ret (.agg (ty.cells x))/\H'= []) ⟨rfl,rfl⟩ J [.agg ws.toArray] L (y.flat l rfl λb x=>absurd x q6r) S (q0c.2 ⟨_,[],rfl,by rw [SV.den];exact ⟨_,rfl,q1a _⟩,q0y.2 rfl⟩);refine R.mono ?_;rintro e w' ⟨o,H',C',⟨rfl,rfl⟩,rfl,E,u,v,rfl,B⟩;rw [SV.den] at B;obtain ⟨vs,rfl,B⟩:=B;have A:∀b,b<C.w.heap.size->C'.w.heap[b]?=C.w.heap[b]?:=λb j=>u.frame b j (λ⟨h,o,a,_⟩=>by simp at a);obtain ⟨V,O⟩:=z2J N u.size A u.os u.tape u.output;refine ⟨C'.I,vs,rfl,ty.cells_rel _ _ D a B,λb j=> ?_,V,O⟩;rcases u.immNew b j with F| ⟨F| ⟨h,o,a,_⟩,X⟩
 . exact F.elim
 . exact ⟨F,E.imm b j,X⟩
 simp at a
end Go.Sx