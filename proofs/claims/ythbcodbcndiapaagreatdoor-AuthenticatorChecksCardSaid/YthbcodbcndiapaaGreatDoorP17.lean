/- The plain law: the program and the reference tell the same of entries. -/
import Derived.Test.YthbcodbcndiapaaGreatDoorPRv
set_option linter.all false
namespace Go.Proofs.YthbcodbcndiapaaGreatDoor
open Go Go.Sx Go.Proofs
set_option maxRecDepth 100000
set_option maxHeartbeats 1000000
set_option maxHeartbeats 4000000
def z9r(n:Nat):(lenS n).length<=4:=by
 unfold lenS;split
 . simp
 split
 . simp
 split<;>simp
def z1c(t:UInt8)(l:List (List UInt8)):(elemS t l).length<=l.flatten.length+5:=by
 unfold elemS;split
 . have:=z9r l.flatten.length;simp only [tlv,AK,Ab];omega
 simp
def j0K(v:Int):intSz v<=9:=by
 unfold intSz;cases h:firstN 9 (oneB v) with
 |none=>simp
 |some k=>have:=(z2S h).1;simp;omega
def z9F(v:Int):(intS v).length<=14:=by
 unfold intS;split
 . have h1:=z1c 2 [numS v (intSz v)];have h2:=j0K v;simp only [A7,List.flatten_nil,Ah,numS,AX,Bo] at h1 h2⊢;omega
 simp
def sgn1(x:UInt8):Int:=IntKind.i8.wrap (x.toNat:Int)
def sgn(c:List UInt8):Int:=(c.drop 1).foldl (fun v x=>v*256+ (x.toNat:Int)) (sgn1 (c.getD 0 0))
def decInt(c:List UInt8):Option Int:=if 1<=c.length∧c.length<=8∧intS (sgn c)=elemS 2 [c] then some (sgn c) else none
def decTime(c:List UInt8):Option Nat:=if c.length=6∧beN c<=1099511627776 then some (beN c) else none
def decStr(c:List UInt8):Option ByteArray:=some ⟨c.toArray⟩
def decOct(c:List UInt8):Option (List UInt8):=some c
def intP:PR Int:=rdP 2 decInt
def octP:PR (List UInt8):=rdP 4 decOct
def timeP:PR Nat:=rdP 24 decTime
def strP:PR ByteArray:=rdP 27 decStr
variable {α:Type}{tag:UInt8}{r:List UInt8}{v:α}{k:Nat}
theorem q6l{dec:List UInt8->Option α}(h:rdP tag dec r= .ok (v,k)):takeE tag r=0∧dec (takeC r)=some v∧k=takeN r:=by
 unfold rdP at h;split at h
 . split at h
   . cases h;exact ⟨by assumption,by assumption,rfl⟩
   cases h
 cases h
variable {e:Nat}
theorem z1p{dec:List UInt8->Option α}(h:rdP tag dec r= .error e):(takeE tag r=0∧dec (takeC r)=none∧e=6)∨(takeE tag r≠0∧e=takeE tag r):=by
 unfold rdP at h;split at h
 . split at h
   . cases h
   cases h;exact .inl ⟨by assumption,by assumption,rfl⟩
 cases h;exact .inr ⟨by assumption,rfl⟩
theorem j1P{dec:List UInt8->Option α}(h:rdP tag dec r= .ok (v,k)):k<=r.length:=by obtain ⟨h1,_,rfl⟩:=q6l h;exact q3i h1
def z6M(v:Int)(c:Nat)(hv: -36028797018963968<=v∧v<36028797018963968)(hc:c<256):IntKind.i64.wrap ((BitVec.ofInt 64 (v*256) |||BitVec.ofInt 64 ((c:Nat):Int)).toNat:Int)=v*256+c:=by
 obtain ⟨m,hm⟩:∃m:Nat,(BitVec.ofInt 64 (v*256)).toNat=m*256∧((m:Int)*256=v*256∨(m:Int)*256=v*256+18446744073709551616):=by
  refine ⟨((v*256)%18446744073709551616).toNat / 256,?_,?_⟩
  . rw [BitVec.toNat_ofInt];have:(((2^ 64:Nat)):Int)=18446744073709551616:=by decide
    rw [this];omega
  omega
 have h2:(BitVec.ofInt 64 ((c:Nat):Int)).toNat=c:=by rw [AO,AU];exact AV (by omega)
 have h3:m*256|||c=m*256+c:=by have:=CH (b:=c) (i:=8) hc m;rw [C6] at this;exact this.symm
 rw [Cq,hm.1,h2,h3];have hw:∀x:Int,IntKind.i64.wrap x=if x%18446744073709551616<9223372036854775808 then x%18446744073709551616 else x%18446744073709551616-18446744073709551616:=fun x=>by simp [IntKind.wrap,IntKind.bits,IntKind.signed];split<;>omega
 rw [hw]
 push_cast
 rcases hm.2 with h|h<;>split<;>omega
def sgnK(c:List UInt8)(i:Nat):Int:=((c.drop 1).take i).foldl (fun v x=>v*256+ (x.toNat:Int)) (sgn1 (c.getD 0 0))
def z6O(x:UInt8): -128<=sgn1 x∧sgn1 x<128:=by have:=x.toNat_lt;unfold sgn1;simp [IntKind.wrap,IntKind.bits,IntKind.signed];omega
variable {c:List UInt8}
theorem z0D{i:Nat}(h:i< (c.drop 1).length):sgnK c (i+1)=sgnK c i*256+ (((c.drop 1).getD i 0).toNat:Int):=by unfold sgnK;rw [q2a (d:=0) h,List.foldl_append];rfl
def z5Q(c:List UInt8):∀i,i<=(c.drop 1).length-> -(128*256^ i:Nat)<=sgnK c i∧sgnK c i< (128*256^ i:Nat)
 |0,_=>by have:=z6O (c.getD 0 0);simpa [sgnK] using this
 |i+1,h=>by have ih:=z5Q c i (by omega);have hx:=((c.drop 1).getD i 0).toNat_lt;rw [z0D (by omega),Nat.pow_succ];omega
def j3k(a b:List UInt8)(ha:a.length<=140737488355328)(hb:b.length<=140737488355328):PC Tryz.prog 101 [.isl .u8 a,.isl .u8 b] (rB (decide (a=b))):=by refine q0q rfl rfl ?_;refine rQ fi101 ?_;exact decide_eq_decide.2 ⟨fun h=>by simpa [strOf] using h,fun h=>by rw [h]⟩
def iVal(c:List UInt8):Int:=if c.length<1∨8<c.length then 0 else sgn c
theorem z4Y{v:Int}(h:decInt c=some v):v=iVal c:=by
 unfold decInt at h;split at h
 . rename_i hc;cases h;unfold iVal;rw [if_neg (by omega)]
 cases h
def j0f(c:List UInt8):sgnK c (c.drop 1).length=sgn c:=by unfold sgnK sgn;rw [AL]
theorem j2i(c:List UInt8)(hc:c.length<=1099511627776):PC Tryz.prog 131 [.isl .u8 c] (.tup [rI (iVal c),rB (decInt c).isSome]):=by
 refine q0n rfl rfl ?_;refine rQ fi131 ?_;have h0:(c.length<1∨8<c.length)->iVal c=0∧(decInt c).isSome=false:=fun h=>by unfold iVal decInt;rw [if_pos h,if_neg (by omega)];exact ⟨rfl,rfl⟩
 refine ⟨fun h1=>⟨fun h8=> ?_,fun h8=>⟨by omega,⟨by omega,Af _⟩,?_⟩⟩,fun h1=> ?_⟩
 . obtain ⟨e1,e2⟩:=h0 (by omega);rw [e1,e2];exact ⟨rfl,rfl⟩
 rotate_left
 . obtain ⟨e1,e2⟩:=h0 (by omega);rw [e1,e2];exact ⟨rfl,rfl⟩
 have hs1:IntKind.i64.wrap (IntKind.i8.wrap ((c.getD 0 Ty.u8.dflt).toNat:Int))=sgnK c 0:=by have:=z6O (c.getD 0 0);show IntKind.i64.wrap (sgn1 (c.getD 0 0))=_;rw [wrapi (by omega)];rfl
 rw [hs1];have htl:List.take c.length c=c:=AL;rw [htl];have hl:(c.drop 1).length=c.length-1:=Aj;generalize hD:c.drop 1=d at*;refine q1u (fun i=>[(4,rI (sgnK c i)),(23,.raw (.int .i64 ((i:Nat):Int)))]) (d.length) (fun j=>(fun _=>true) j=true) (by first|decide|simp) (fun i=>rfl) ?_ fun i hi hall=> ?_
 . (with_reducible refine sxE ?_<;>try exact True.intro)
   all_goals (try rfl)
 have hwr:=wsx i (by omega);refine gQ ?_;have bad:i< (d.length)->(fun _=>true) i=false->allN (d.length) (fun _=>true)=false:=fun hlt hv=>q0v hlt hv;have fin:¬i< (d.length)->allN (d.length) (fun _=>true)=true:=fun h=>q0C fun j hj=>hall j (by omega);try dsimp only at bad fin hall
 refine ⟨fun hlt=>⟨⟨by omega,hlt⟩,?_⟩,fun hge=> ?_⟩
 . have hb:=z5Q c i (by rw [hD];omega);have hp:256^ i<=256^ 6:=BA (by decide) (by omega);have hx:(d.getD i Ty.u8.dflt).toNat<256:=Cf _;have e0:sgnK c i*2^ min 8 64=sgnK c i*256:=rfl;have e1:IntKind.i64.wrap (sgnK c i*256)=sgnK c i*256:=wrapi (by omega);have e2:IntKind.i64.wrap ((d.getD i Ty.u8.dflt).toNat:Int)=((d.getD i Ty.u8.dflt).toNat:Int):=wrapi (by omega);have e3:=z6M (sgnK c i) (d.getD i Ty.u8.dflt).toNat (by omega) hx;have e4:=z0D (c:=c) (i:=i) (by rw [hD];exact hlt);rw [hD] at e4;rw [e0,e1,e2];refine ⟨hlt,trivial,⟨[],rfl⟩,?_⟩;with_reducible refine sx1 hwr ?_
   rw [e4];exact congrArg (Value.int .i64) e3
 obtain rfl:i=d.length:=by omega
 have hall':=j0f c;rw [hD] at hall';rw [hall'];refine cQ (q2E (sgn c)) ?_;refine q0z 0 ?_;with_reducible refine sxE ?_
 refine q0a (q2v 2 2 rfl [c] (by simp)) ?_;have g1:=z9F (sgn c);have g2:=z1c 2 [c];simp only [A7,List.flatten_nil,Ah] at g2;refine gQ ?_;refine cQ (j3k _ _ (by omega) (by omega)) ?_;have e1:iVal c=sgn c:=by unfold iVal;rw [if_neg (by omega)]
 have e2:(decInt c).isSome=decide (intS (sgn c)=elemS 2 [c]):=by
  unfold decInt;by_cases h:intS (sgn c)=elemS 2 [c]
  . rw [if_pos ⟨by omega,by omega,h⟩,decide_eq_true h];rfl
  rw [if_neg (fun q=>h q.2.2),decide_eq_false h];rfl
 rw [e1,e2];exact ⟨rfl,rfl⟩
def tVal(c:List UInt8):Nat:=if c.length≠6 then 0 else beN c
theorem z7P(c:List UInt8):PC Tryz.prog 144 [.isl .u8 c] (.tup [rI (tVal c),rB (decTime c).isSome]):=by
 refine q0n rfl rfl ?_;refine rQ fi144 ?_;refine ⟨fun h6=> ?_,fun h6=>q0a (z4S c (by omega)) ?_⟩
 . have e1:tVal c=0:=by unfold tVal;rw [if_pos (by omega)]
   have e2:(decTime c).isSome=false:=by unfold decTime;rw [if_neg (by omega)];rfl
   rw [e1,e2];exact ⟨rfl,rfl⟩
 have e1:tVal c=beN c:=by unfold tVal;rw [if_neg (by omega)]
 have e2:(decTime c).isSome=decide (((beN c:Nat):Int)<=1099511627776):=by
  unfold decTime;by_cases h:beN c<=1099511627776
  . rw [if_pos ⟨by omega,h⟩,decide_eq_true (by omega)];rfl
  rw [if_neg (by omega),decide_eq_false (by omega)];rfl
 rw [e1,e2];refine gQ ?_;trivial
theorem j1R(c:List UInt8)(hc:c.length<=1099511627776):PC Tryz.prog 187 [.isl .u8 c] (.tup [rS ⟨c.toArray⟩,rB true]):=by refine q0n rfl rfl ?_;refine rQ fi187 ?_;rfl
def j2e(c:List UInt8)(hc:c.length<=1099511627776):PC Tryz.prog 143 [.isl .u8 c] (.tup [.isl .u8 c,rB true]):=by refine q0n rfl rfl ?_;refine rQ fi143 ?_;refine cQ (q2n c (by omega)) ?_;trivial
theorem z2f{v:Nat}(h:decTime c=some v):v=tVal c:=by
 unfold decTime at h;split at h
 . rename_i hc;cases h;unfold tVal;rw [if_neg (by omega)]
 cases h
variable {b:List UInt8}{n:Nat}
def q1s(hb:b.length<=1099511627776):(takeC (b.drop n)).length<=1099511627776:=by have:=q7B (b.drop n);rw [Aj] at this;omega
def z7m(b:List UInt8)(n:Nat)(hn:n<=b.length)(hb:b.length<=1099511627776){v:Int}(h:intP (b.drop n)= .ok (v,k)):PE Tryz.prog 70 [.ptr 0 0] [rdr b n] (.ret (.tup [(rI) v,rI 0])) [rdr b (n+k)]:=by obtain ⟨h1,h2,rfl⟩:=q6l h;have hr:=q6z 131 2 b n hn hb _ _ (j2i (takeC (b.drop n)) (q1s hb)) ⟨_,.inl rfl⟩;rw [if_pos h1,if_pos (by rw [h2];rfl),if_pos ⟨h1,by rw [h2];rfl⟩,<-z4Y h2] at hr;refine q0b (Af _) ?_;refine rQ fi70 ?_;refine eQ [0] (hr) ?_;trivial
def z5I(b:List UInt8)(n:Nat)(hn:n<=b.length)(hb:b.length<=1099511627776)(h:intP (b.drop n)= .error e):PE Tryz.prog 70 [.ptr 0 0] [rdr b n] (.ret (.tup [rI 0,rI e])) [rdr b n]:=by
 have hr:=q6z 131 2 b n hn hb _ _ (j2i (takeC (b.drop n)) (q1s hb)) ⟨_,.inl rfl⟩;have hr':PE Tryz.prog 130 [.ptr 0 0,.raw (.int .u8 (2:UInt8).toNat),.fn 131 [] []] [rdr b n] (.ret (.tup [rI 0,rI e])) [rdr b n]:=by
  rcases z1p h with ⟨h1,h2,rfl⟩ | ⟨h1,rfl⟩
  . rw [if_pos h1,if_neg (by rw [h2];simp),if_neg (fun q=>by rw [h2] at q;simp at q)] at hr;exact hr
  rw [if_neg h1,if_neg (fun q=>h1 q.1)] at hr;exact hr
 refine q0b (Af _) ?_;refine rQ fi70 ?_;refine eQ [0] (hr') ?_;trivial
def z9m(b:List UInt8)(n:Nat)(hn:n<=b.length)(hb:b.length<=1099511627776){v:Nat}(h:timeP (b.drop n)= .ok (v,k)):PE Tryz.prog 75 [.ptr 0 0] [rdr b n] (.ret (.tup [(fun v=>rI (v:Nat)) v,rI 0])) [rdr b (n+k)]:=by obtain ⟨h1,h2,rfl⟩:=q6l h;have hr:=q6z 144 24 b n hn hb _ _ (z7P (takeC (b.drop n))) ⟨_,.inl rfl⟩;rw [if_pos h1,if_pos (by rw [h2];rfl),if_pos ⟨h1,by rw [h2];rfl⟩,<-z2f h2] at hr;refine q0b (Af _) ?_;refine rQ fi75 ?_;refine eQ [0] (hr) ?_;trivial
def j0P(b:List UInt8)(n:Nat)(hn:n<=b.length)(hb:b.length<=1099511627776)(h:timeP (b.drop n)= .error e):PE Tryz.prog 75 [.ptr 0 0] [rdr b n] (.ret (.tup [rI 0,rI e])) [rdr b n]:=by
 have hr:=q6z 144 24 b n hn hb _ _ (z7P (takeC (b.drop n))) ⟨_,.inl rfl⟩;have hr':PE Tryz.prog 130 [.ptr 0 0,.raw (.int .u8 (24:UInt8).toNat),.fn 144 [] []] [rdr b n] (.ret (.tup [rI 0,rI e])) [rdr b n]:=by
  rcases z1p h with ⟨h1,h2,rfl⟩ | ⟨h1,rfl⟩
  . rw [if_pos h1,if_neg (by rw [h2];simp),if_neg (fun q=>by rw [h2] at q;simp at q)] at hr;exact hr
  rw [if_neg h1,if_neg (fun q=>h1 q.1)] at hr;exact hr
 refine q0b (Af _) ?_;refine rQ fi75 ?_;refine eQ [0] (hr') ?_;trivial
def z5Y(b:List UInt8)(n:Nat)(hn:n<=b.length)(hb:b.length<=1099511627776){v:ByteArray}(h:strP (b.drop n)= .ok (v,k)):PE Tryz.prog 138 [.ptr 0 0] [rdr b n] (.ret (.tup [rS v,rI 0])) [rdr b (n+k)]:=by obtain ⟨h1,h2,rfl⟩:=q6l h;have hr:=z3v 187 27 b n hn hb _ _ (j1R (takeC (b.drop n)) (q1s hb)) ⟨_,.inl rfl⟩;rw [if_pos h1,if_pos rfl,if_pos ⟨h1,rfl⟩] at hr;cases h2;refine q0b (Af _) ?_;refine rQ fi138 ?_;refine eQ [0] (hr) ?_;trivial
def z6T(b:List UInt8)(n:Nat)(hn:n<=b.length)(hb:b.length<=1099511627776)(h:strP (b.drop n)= .error e):PE Tryz.prog 138 [.ptr 0 0] [rdr b n] (.ret (.tup [.raw (.string ⟨#[]⟩),rI e])) [rdr b n]:=by
 have hr:=z3v 187 27 b n hn hb _ _ (j1R (takeC (b.drop n)) (q1s hb)) ⟨_,.inl rfl⟩;have hr':PE Tryz.prog 186 [.ptr 0 0,.raw (.int .u8 (27:UInt8).toNat),.fn 187 [] []] [rdr b n] (.ret (.tup [.raw (.string ⟨#[]⟩),rI e])) [rdr b n]:=by
  rcases z1p h with ⟨h1,h2,rfl⟩ | ⟨h1,rfl⟩
  . cases h2
  rw [if_neg h1,if_neg (fun q=>h1 q.1)] at hr;exact hr
 refine q0b (Af _) ?_;refine rQ fi138 ?_;refine eQ [0] (hr') ?_;trivial
def z7b(b:List UInt8)(n:Nat)(hn:n<=b.length)(hb:b.length<=1099511627776){v:List UInt8}(h:octP (b.drop n)= .ok (v,k)):PE Tryz.prog 74 [.ptr 0 0] [rdr b n] (.ret (.tup [.isl .u8 v,rI 0])) [rdr b (n+k)]:=by obtain ⟨h1,h2,rfl⟩:=q6l h;have hr:=q8w 143 4 b n hn hb _ _ (j2e (takeC (b.drop n)) (q1s hb)) ⟨.bool true,.inr ⟨_,rfl⟩⟩;rw [if_pos h1,if_pos rfl,if_pos ⟨h1,rfl⟩] at hr;cases h2;refine q0b (Af _) ?_;refine rQ fi74 ?_;refine eQ [0] (hr) ?_;trivial
def z6A(b:List UInt8)(n:Nat)(hn:n<=b.length)(hb:b.length<=1099511627776)(h:octP (b.drop n)= .error e):PE Tryz.prog 74 [.ptr 0 0] [rdr b n] (.ret (.tup [.isl .u8 [],rI e])) [rdr b n]:=by
 have hr:=q8w 143 4 b n hn hb _ _ (j2e (takeC (b.drop n)) (q1s hb)) ⟨.bool true,.inr ⟨_,rfl⟩⟩;have hr':PE Tryz.prog 142 [.ptr 0 0,.raw (.int .u8 (4:UInt8).toNat),.fn 143 [] []] [rdr b n] (.ret (.tup [.isl .u8 [],rI e])) [rdr b n]:=by
  rcases z1p h with ⟨h1,h2,rfl⟩ | ⟨h1,rfl⟩
  . cases h2
  rw [if_neg h1,if_neg (fun q=>h1 q.1)] at hr;exact hr
 refine q0b (Af _) ?_;refine rQ fi74 ?_;refine eQ [0] (hr') ?_;trivial
theorem q9i(tag:UInt8)(b:List UInt8)(n:Nat)(hn:n<=b.length)(hb:b.length<=1099511627776)(h:takeE tag (b.drop n)=0):
 PE Tryz.prog 126 [.ptr 0 0,.raw (.int .u8 tag.toNat),.fn 127 [] []] [rdr b n] (.ret (.tup [.ptr 1 0,rI 0])) [rdr b (n+takeN (b.drop n)),rdr (takeC (b.drop n)) 0]:=by
 have ht:=z0S tag b n hn hb;rw [if_pos h,if_pos h,h] at ht;generalize takeC (b.drop n)=c at*;generalize takeN (b.drop n)=k at*;refine q0b (by simp) ?_;refine rQ fi126 ?_;refine eQ [0] (ht) ?_;refine eQ [] (z2P c) ?_;trivial
theorem q9A(tag:UInt8)(b:List UInt8)(n:Nat)(hn:n<=b.length)(hb:b.length<=1099511627776)(h:takeE tag (b.drop n)≠0):
 PE Tryz.prog 126 [.ptr 0 0,.raw (.int .u8 tag.toNat),.fn 127 [] []] [rdr b n] (.ret (.tup [.raw (.pointer none),rI (takeE tag (b.drop n))])) [rdr b n]:=by
 have ht:=z0S tag b n hn hb;rw [if_neg h,if_neg h] at ht;generalize takeE tag (b.drop n)=e at*;refine q0b (by simp) ?_;refine rQ fi126 ?_;refine eQ [0] (ht) ?_;exact ⟨fun _=>trivial,fun h0=>absurd (by omega) h⟩
def q5z(b:List UInt8)(n:Nat)(hn:n<=b.length)(hb:b.length<=1099511627776)(h:takeE 48 (b.drop n)=0):
 PE Tryz.prog 66 [.ptr 0 0] [rdr b n] (.ret (.tup [.ptr 1 0,rI 0])) [rdr b (n+takeN (b.drop n)),rdr (takeC (b.drop n)) 0]:=by
 have hr:=q9i 48 b n hn hb h;refine q0b (by simp) ?_;refine rQ fi66 ?_;refine eQ [0] (hr) ?_;trivial
def q5Z(b:List UInt8)(n:Nat)(hn:n<=b.length)(hb:b.length<=1099511627776)(h:takeE 48 (b.drop n)≠0):
 PE Tryz.prog 66 [.ptr 0 0] [rdr b n] (.ret (.tup [.raw (.pointer none),rI (takeE 48 (b.drop n))])) [rdr b n]:=by
 have hr:=q9A 48 b n hn hb h;refine q0b (by simp) ?_;refine rQ fi66 ?_;refine eQ [0] (hr) ?_;trivial
variable {m:Nat}
def z5B(hm:m<=30):IntKind.u8.wrap (IntKind.i64.wrap (160+ (m:Int)))=((tagB m).toNat:Int):=by rw [wrapi (by omega)];exact (q5N _).symm
def q7C:nextB m r=true ↔ ¬((r.length:Int)=0)∧((r.getD 0 Ty.u8.dflt).toNat:Int)=((tagB m).toNat:Int):=by
 unfold nextB;simp only [Am,decide_eq_true_eq,ne_eq];constructor
 . rintro ⟨h1,h2⟩;exact ⟨by omega,by rw [show r.getD 0 Ty.u8.dflt=tagB m from h2]⟩
 rintro ⟨h1,h2⟩;exact ⟨by omega,BP.1 (by exact_mod_cast h2)⟩
def z9t(h:nextB m r=false)(h1:¬((r.length:Int)=0)):¬((r.getD 0 Ty.u8.dflt).toNat:Int)=((tagB m).toNat:Int):=fun h2=>by rw [q7C.2 ⟨h1,h2⟩] at h;cases h
theorem q2R(m:Nat)(hm:m<=30)(b:List UInt8)(n:Nat)(hn:n<=b.length)(h:nextB m (b.drop n)=false):
 PE Tryz.prog 140 [.ptr 0 0,rI m] [rdr b n] (.ret (.tup [.raw (.pointer none),rB false,rI 0])) [rdr b n]:=by
 have hr:=z1u b n hn;have hu:=z5B hm;have hx:=z9t h;generalize b.drop n=r at*;refine q0b (by simp) ?_;refine rQ fi140 ?_;refine ⟨fun _=>⟨fun h30=>absurd h30 (by omega),fun _=> ?_⟩,fun hneg=>by exfalso;omega⟩;refine q0i [0] (hr) rfl (by decide) (by repeat first|exact trivial|exact rfl|refine And.intro ?_ ?_) rfl rfl ?_;simp only [afterO,Out.ren,SV.ren,mgA,sig,SObj.ren,SV.renL,List.set,List.map,Ah,hu];refine gy1 hu ?_;exact ⟨fun h0=>⟨by omega,fun _=>trivial,fun h1=>absurd h1 (hx h0)⟩,fun _=>trivial⟩
theorem q2M(m:Nat)(hm:m<=30)(b:List UInt8)(n:Nat)(hn:n<=b.length)(hb:b.length<=1099511627776)(h:nextB m (b.drop n)=true)(ht:takeE (tagB m) (b.drop n)=0):
 PE Tryz.prog 140 [.ptr 0 0,rI m] [rdr b n] (.ret (.tup [.ptr 1 0,rB true,rI 0])) [rdr b (n+takeN (b.drop n)),rdr (takeC (b.drop n)) 0]:=by
 have hr:=z1u b n hn;have hd:=q9i (tagB m) b n hn hb ht;have hu:=z5B hm;obtain ⟨hx1,hx2⟩:=q7C.1 h;generalize takeC (b.drop n)=c at*;generalize takeN (b.drop n)=k at*;generalize b.drop n=r at*;refine q0b (by simp) ?_;refine rQ fi140 ?_;refine ⟨fun _=>⟨fun h30=>absurd h30 (by omega),fun _=> ?_⟩,fun hneg=>by exfalso;omega⟩;refine q0i [0] (hr) rfl (by decide) (by repeat first|exact trivial|exact rfl|refine And.intro ?_ ?_) rfl rfl ?_;simp only [afterO,Out.ren,SV.ren,mgA,sig,SObj.ren,SV.renL,List.set,List.map,Ah,hu];refine gy1 hu ?_;refine ⟨fun h0=>⟨by omega,fun h1=>absurd hx2 h1,fun _=> ?_⟩,fun h0=>absurd h0 hx1⟩;refine eQ [0] (hd) ?_;trivial
theorem q2P(m:Nat)(hm:m<=30)(b:List UInt8)(n:Nat)(hn:n<=b.length)(hb:b.length<=1099511627776)(h:nextB m (b.drop n)=true)(ht:takeE (tagB m) (b.drop n)≠0):
 PE Tryz.prog 140 [.ptr 0 0,rI m] [rdr b n] (.ret (.tup [.raw (.pointer none),rB false,rI (takeE (tagB m) (b.drop n))])) [rdr b n]:=by
 have hr:=z1u b n hn;have hd:=q9A (tagB m) b n hn hb ht;have hu:=z5B hm;obtain ⟨hx1,hx2⟩:=q7C.1 h;generalize takeE (tagB m) (b.drop n)=e at*;generalize b.drop n=r at*;refine q0b (by simp) ?_;refine rQ fi140 ?_;refine ⟨fun _=>⟨fun h30=>absurd h30 (by omega),fun _=> ?_⟩,fun hneg=>by exfalso;omega⟩;refine q0i [0] (hr) rfl (by decide) (by repeat first|exact trivial|exact rfl|refine And.intro ?_ ?_) rfl rfl ?_;simp only [afterO,Out.ren,SV.ren,mgA,sig,SObj.ren,SV.renL,List.set,List.map,Ah,hu];refine gy1 hu ?_;refine ⟨fun h0=>⟨by omega,fun h1=>absurd hx2 h1,fun _=> ?_⟩,fun h0=>absurd h0 hx1⟩;refine eQ [0] (hd) ?_;exact fun q=>ht (by omega)
variable {p:PR α}
def q7v:(takeE tag r≠0∧inP tag p r= .error (takeE tag r))∨
 (takeE tag r=0∧∃e,p (takeC r)= .error e∧inP tag p r= .error e)∨
 (takeE tag r=0∧∃v m,p (takeC r)= .ok (v,m)∧m< (takeC r).length∧inP tag p r= .error 6)∨
 (takeE tag r=0∧∃v m,p (takeC r)= .ok (v,m)∧¬m< (takeC r).length∧inP tag p r= .ok (v,takeN r)):=by
 unfold inP allP;by_cases h:takeE tag r=0
 . right;rw [if_pos h];cases hp:p (takeC r) with
   |error e=>exact .inl ⟨h,e,rfl,rfl⟩
   |ok x=>
    obtain ⟨v,m⟩:=x;by_cases hm:m< (takeC r).length
    . exact .inr (.inl ⟨h,v,m,rfl,hm,by simp [hm]⟩)
    exact .inr (.inr ⟨h,v,m,rfl,hm,by simp [hm]⟩)
 exact .inl ⟨h,by rw [if_neg h]⟩
def FitsP(p:PR α):Prop:=∀r v m,p r= .ok (v,m)->m<=r.length
def q5c:FitsP (inP tag p):=fun r v m h=>by
 rcases q7v (tag:=tag) (p:=p) (r:=r) with ⟨_,e⟩ | ⟨_,_,_,e⟩ | ⟨_,_,_,_,_,e⟩ | ⟨h0,_,_,_,_,e⟩ <;>rw [e] at h<;>cases h
 exact q3i h0
def q4h{dec:List UInt8->Option α}:FitsP (rdP tag dec):=fun _ _ _ h=>j1P h
def q0T:FitsP (needP n p):=fun r v m h=>by
 unfold needP at h;split at h
 . exact q5c r v m h
 cases h
theorem q6t{dec:List UInt8->Option α}(h:rdP tag dec r= .error e):e≠0:=by
 rcases z1p h with ⟨_,_,rfl⟩ | ⟨h1,rfl⟩
 . decide
 exact h1
def tailP(xs:List α)(k:Nat):Except Nat (List α×Nat)->Except Nat (List α×Nat)
 |.ok (l,m)=>.ok (xs++l,k+m)
 |.error e=>.error e
variable {most:Nat}{xs:List α}
def q8v(hk:k<c.length)(hm:0<most)(hp:p (c.drop k)= .ok (v,m)):tailP xs n (listP p most (c.drop k))=tailP (xs++ [v]) (n+m) (listP p (most-1) (c.drop (k+m))):=by
 obtain ⟨most,rfl⟩:∃q,most=q+1:=⟨most-1,by omega⟩
 simp only [listP];rw [if_neg (by rw [Aj];omega),hp];simp only [BT,Bd];cases listP p most (c.drop (k+m)) with
 |error e=>rfl
 |ok y=>obtain ⟨l,q⟩:=y;simp [tailP];omega
theorem z5h(hk:k<c.length):tailP xs n (listP p 0 (c.drop k))= .error 6:=by simp only [listP];rw [if_neg (by rw [Aj];omega)];rfl
theorem q3A(hk:k<c.length)(hm:0<most)(hp:p (c.drop k)= .error e):tailP xs n (listP p most (c.drop k))= .error e:=by
 obtain ⟨most,rfl⟩:∃q,most=q+1:=⟨most-1,by omega⟩
 simp only [listP];rw [if_neg (by rw [Aj];omega),hp];rfl
def z1s(hk:c.length<=k):tailP xs n (listP p most (c.drop k))= .ok (xs,n):=by have:c.drop k= []:=A2 hk;rw [this];cases most<;>simp [listP,tailP]
def z3X(x:Except Nat (List α×Nat)):tailP [] 0 x=x:=by
 cases x with
 |error e=>rfl
 |ok y=>obtain ⟨l,m⟩:=y;simp [tailP]
def shiftP(k:Nat):Except Nat (α×Nat)->Except Nat (α×Nat)
 |.ok (v,m)=>.ok (v,k+m)
 |.error e=>.error e
variable {β:Type}{f:α->PR β}
def q0X(h:p r= .error e):bindP p f r= .error e:=by unfold bindP;rw [h]
theorem q1z(h:p (b.drop n)= .ok (v,k)):bindP p f (b.drop n)=shiftP k (f v (b.drop (n+k))):=by
 unfold bindP;rw [h];simp only [Bd];cases f v (b.drop (n+k)) with
 |error e=>rfl
 |ok y=>rfl
def q2y(hp:FitsP p)(hn:n<=b.length)(h:p (b.drop n)= .ok (v,k)):n+k<=b.length:=by have:=hp _ _ _ h;rw [Aj] at this;omega
def OkP(p:PR α)(Q:α->Prop):Prop:=∀r v m,r.length<=1099511627776->p r= .ok (v,m)->Q v
variable {Q:α->Prop}
def z7g{dec:List UInt8->Option α}(h:∀c v,c.length<=1099511627776->dec c=some v->Q v):OkP (rdP tag dec) Q:=fun r v m hr hx=>by obtain ⟨_,h2,_⟩:=q6l hx;exact h _ v (As (q7B r) hr) h2
def z1y(h:OkP p Q):OkP (inP tag p) Q:=fun r v m hr hx=>by
 rcases q7v (tag:=tag) (p:=p) (r:=r) with ⟨_,e⟩ | ⟨_,_,_,e⟩ | ⟨_,_,_,_,_,e⟩ | ⟨_,u,k,g,_,e⟩ <;>rw [e] at hx<;>cases hx
 exact h _ _ _ (As (q7B r) hr) g
def q4Q(h:OkP p Q):OkP (needP n p) Q:=fun r v m hr hx=>by
 unfold needP at hx;split at hx
 . exact z1y h r v m hr hx
 cases hx
def q5h{Q1:α->Prop}{Q:β->Prop}(hp:OkP p Q1)(hf:∀v,Q1 v->OkP (f v) Q):OkP (bindP p f) Q:=fun r v m hr hx=>by
 unfold bindP at hx;cases h1:p r with
 |error e=>rw [h1] at hx;cases hx
 |ok y=>
  obtain ⟨u,k⟩:=y;rw [h1] at hx;simp only at hx;cases h2:f u (r.drop k) with
  |error e=>rw [h2] at hx;cases hx
  |ok z=>obtain ⟨w,l⟩:=z;rw [h2] at hx;cases hx;exact hf u (hp r u k hr h1) _ _ _ (by rw [Aj];omega) h2
def z7x(h:Q v):OkP (retP v) Q:=fun r u m _ hx=>by cases hx;exact h
def z3l{α:Type}{p:PR α}{Q:α->Prop}(hp:OkP p Q):∀n,OkP (listP p n) fun l=>l.length<=n∧∀x∈l,Q x
 |0,r,v,m,_,hx=>by
  simp only [listP] at hx;split at hx
  . cases hx;exact ⟨Af _,by simp⟩
  cases hx
 |n+1,r,v,m,hr,hx=>by
  simp only [listP] at hx;split at hx
  . cases hx;exact ⟨by simp,by simp⟩
  cases h1:p r with
  |error e=>rw [h1] at hx;cases hx
  |ok y=>
   obtain ⟨u,k⟩:=y;rw [h1] at hx;simp only at hx;cases h2:listP p n (r.drop k) with
   |error e=>rw [h2] at hx;cases hx
   |ok z=>
    obtain ⟨w,l⟩:=z;rw [h2] at hx;cases hx;have h3:=z3l hp n _ _ _ (by rw [Aj];omega) h2
    exact ⟨by simp;exact h3.1,fun x hxm=>by
     rcases Bm.1 hxm with rfl|hm
     . exact hp r _ k hr h1
     exact h3.2 x hm⟩
def q9Z:OkP p fun _=>True:=fun _ _ _ _ _=>trivial
def z6k:OkP strP fun s=>s.size<=1099511627776:=z7g fun c v hc hd=>by unfold decStr at hd;cases hd;show c.toArray.size<=_;simpa using hc
def j7e(b:List UInt8)(hb:b.length<=140737488355328):PE Tryz.prog 63 [.isl .u8 b] [] (.ret (.ptr 0 0)) [rdr b 0]:=by refine q0b (by simp) ?_;refine rQ fi63 ?_;refine cQ (q2n b hb) ?_;refine eQ [] (z8U b) ?_;trivial
@[go_sem] abbrev errV(e:Int):SV:=.iface 33 (rI e)
def EffX(P:Program)(f:FuncId)(args:List SV)(b:List UInt8)(n:Nat)(res:α->SV):Except Nat (α×Nat)->Prop
 |.ok (v,k)=>PE P f args [rdr b n] (.ret (res v)) [rdr b (n+k)]
 |.error e=>PE P f args [rdr b n] (.pan (errV e)) [.dead]
variable {P:Program}{f:FuncId}{args:List SV}{res:α->SV}{x:Except Nat (α×Nat)}
def q0W(h:EffX P f args b n res x)(hx:x= .ok (v,k)):PE P f args [rdr b n] (.ret (res v)) [rdr b (n+k)]:=by rw [hx] at h;exact h
def q2f(h:EffX P f args b n res x)(hx:x= .error e):PE P f args [rdr b n] (.pan (errV e)) [.dead]:=by rw [hx] at h;exact h
theorem z0m(v:Value):PC Tryz.prog 190 [.raw v,rI 0] (.raw v):=by refine q0q rfl rfl ?_;refine rQ fi190 ?_;trivial
def z0M(v:Value)(e:Nat)(he:e≠0):PE Tryz.prog 190 [.raw v,rI e] [] (.pan (errV e)) []:=by refine q0b (by simp) ?_;refine rQ fi190 ?_;exact ⟨fun _=>trivial,fun h=>absurd (by omega) he⟩
theorem q6W(v:List UInt8):PC Tryz.prog 191 [.isl .u8 v,rI 0] (.isl .u8 v):=by refine q0q rfl rfl ?_;refine rQ fi191 ?_;trivial
def q8m(v:List UInt8)(e:Nat)(he:e≠0):PE Tryz.prog 191 [.isl .u8 v,rI e] [] (.pan (errV e)) []:=by refine q0b (by simp) ?_;refine rQ fi191 ?_;exact ⟨fun _=>trivial,fun h=>absurd (by omega) he⟩
theorem q7a(v:Value):PC Tryz.prog 137 [.raw v,rI 0] (.raw v):=by refine q0q rfl rfl ?_;refine rQ fi137 ?_;trivial
def q6g(v:Value)(e:Nat)(he:e≠0):PE Tryz.prog 137 [.raw v,rI e] [] (.pan (errV e)) []:=by refine q0b (by simp) ?_;refine rQ fi137 ?_;exact ⟨fun _=>trivial,fun h=>absurd (by omega) he⟩
def q7l(b:List UInt8)(n:Nat):PE Tryz.prog 153 [.ptr 0 0,rI 0] [rdr b n] (.ret (.ptr 0 0)) [rdr b n]:=by refine q0b (by simp) ?_;refine rQ fi153 ?_;trivial
def q3L(e:Nat)(he:e≠0):PE Tryz.prog 153 [.raw (.pointer none),rI e] [] (.pan (errV e)) []:=by refine q0b (by simp) ?_;refine rQ fi153 ?_;exact ⟨fun _=>trivial,fun h=>absurd (by omega) he⟩
def q7k(b:List UInt8)(n:Nat):PE Tryz.prog 135 [.ptr 0 0,rI 0] [rdr b n] (.ret (.ptr 0 0)) [rdr b n]:=by refine q0b (by simp) ?_;refine rQ fi135 ?_;trivial
def q6n(e:Nat)(he:e≠0):PE Tryz.prog 135 [.raw (.pointer none),rI e] [] (.pan (errV e)) []:=by refine q0b (by simp) ?_;refine rQ fi135 ?_;exact ⟨fun _=>trivial,fun h=>absurd (by omega) he⟩
def z4s(b:List UInt8)(n:Nat)(hn:n=b.length):PE Tryz.prog 156 [.ptr 0 0] [rdr b n] (.ret (.tup [])) [rdr b n]:=by have he:=q2F b n (by omega);refine q0b (by simp) ?_;refine rQ fi156 ?_;refine eQ [0] (he) ?_;exact ⟨fun q=>absurd q (by omega),fun _=>trivial⟩
def z3S(b:List UInt8)(n:Nat)(hn:n<b.length):PE Tryz.prog 156 [.ptr 0 0] [rdr b n] (.pan (errV 6)) [.dead]:=by have he:=q2F b n (by omega);refine q0b (by simp) ?_;refine rQ fi156 ?_;refine eQ [0] (he) ?_;exact ⟨fun _=>trivial,fun q=>absurd (by omega) q⟩
theorem q1X(h:nextB n r=false):needP n p r= .error (if r.length=0 then 4 else 6):=by unfold needP;rw [h];rfl
theorem q2b(h:nextB n r=true):needP n p r=inP (tagB n) p r:=by unfold needP;rw [h];rfl
def closeP(l N:Nat):Except Nat (α×Nat)->Except Nat (α×Nat)
 |.ok (v,m)=>if m<l then .error 6 else .ok (v,N)
 |.error e=>.error e
def q2Q(h:takeE tag r=0):inP tag p r=closeP (takeC r).length (takeN r) (p (takeC r)):=by
 unfold inP allP;rw [if_pos h];cases p (takeC r) with
 |error e=>rfl
 |ok x=>obtain ⟨v,m⟩:=x;simp only [closeP];by_cases hm:m< (takeC r).length<;>simp [hm]
def q3y(h:takeE tag r≠0):inP tag p r= .error (takeE tag r):=by unfold inP;rw [if_neg h]
theorem z6N(i:Nat)(hi:i<=30)(b:List UInt8)(n:Nat)(hn:n<=b.length)(hb:b.length<=1099511627776):EffX Tryz.prog 154 [.ptr 0 0,rI i,.fn 70 [] []] b n (fun v=>rI v) (needP i intP (b.drop n)):=by
 cases h:nextB i (b.drop n) with
 |false=>
  rw [q1X h,Aj];have hs:=q2R i hi b n hn h;have hl:=q2F b n hn;generalize b.length-n=q at*;refine q0b (by simp) ?_;refine rQ fi154 ?_;refine eQ [0] (hs) ?_;refine eQ [0] (hl) ?_;by_cases hq:q=0
  . simp [hq]
  simp [hq]
 |true=>
  rw [q2b h];by_cases h1:takeE (tagB i) (b.drop n)=0
  . rw [q2Q h1];have hs:=q2M i hi b n hn hb h h1;have hc:=q1s (n:=n) hb;generalize takeC (b.drop n)=c at*;generalize takeN (b.drop n)=N at*;cases hx:intP c with
    |error e=>have hr:=z5I c 0 (Al _) hc (by rw [Av];exact hx);refine q0b (by simp) ?_;refine rQ fi154 ?_;refine eQ [0] (hs) ?_;refine eQ [1] (hr) ?_;refine effP [] (z0M (.int .i64 0) e (q6t hx)) ?_;trivial
    |ok x=>
     obtain ⟨v,m⟩:=x;have hm:=q4h _ _ _ hx;have hr:=z7m c 0 (Al _) hc (by rw [Av];exact hx);have hl:=q2F c m hm;rw [Ae] at hr;simp only [closeP];by_cases hml:m<c.length
     . rw [if_pos hml];refine q0b (by simp) ?_;refine rQ fi154 ?_;refine eQ [0] (hs) ?_;refine eQ [1] (hr) ?_;refine cQ (z0m _) ?_;refine effP [1] (z3S c m hml) ?_;rfl
     rw [if_neg hml];refine q0b (by simp) ?_;refine rQ fi154 ?_;refine eQ [0] (hs) ?_;refine eQ [1] (hr) ?_;refine cQ (z0m _) ?_;refine eQ [1] (z4s c m (by omega)) ?_;trivial
  rw [q3y h1];have hs:=q2P i hi b n hn hb h h1;generalize takeE (tagB i) (b.drop n)=e at*;refine q0b (by simp) ?_;refine rQ fi154 ?_;refine eQ [0] (hs) ?_;exact ⟨fun _=>trivial,fun q=>absurd (by omega) h1⟩
theorem j2h(i:Nat)(hi:i<=30)(b:List UInt8)(n:Nat)(hn:n<=b.length)(hb:b.length<=1099511627776):EffX Tryz.prog 155 [.ptr 0 0,rI i,.fn 74 [] []] b n (fun v=>.isl .u8 v) (needP i octP (b.drop n)):=by
 cases h:nextB i (b.drop n) with
 |false=>
  rw [q1X h,Aj];have hs:=q2R i hi b n hn h;have hl:=q2F b n hn;generalize b.length-n=q at*;refine q0b (by simp) ?_;refine rQ fi155 ?_;refine eQ [0] (hs) ?_;refine eQ [0] (hl) ?_;by_cases hq:q=0
  . simp [hq]
  simp [hq]
 |true=>
  rw [q2b h];by_cases h1:takeE (tagB i) (b.drop n)=0
  . rw [q2Q h1];have hs:=q2M i hi b n hn hb h h1;have hc:=q1s (n:=n) hb;generalize takeC (b.drop n)=c at*;generalize takeN (b.drop n)=N at*;cases hx:octP c with
    |error e=>have hr:=z6A c 0 (Al _) hc (by rw [Av];exact hx);refine q0b (by simp) ?_;refine rQ fi155 ?_;refine eQ [0] (hs) ?_;refine eQ [1] (hr) ?_;refine effP [] (q8m [] e (q6t hx)) ?_;trivial
    |ok x=>
     obtain ⟨v,m⟩:=x;have hm:=q4h _ _ _ hx;have hr:=z7b c 0 (Al _) hc (by rw [Av];exact hx);have hl:=q2F c m hm;rw [Ae] at hr;simp only [closeP];by_cases hml:m<c.length
     . rw [if_pos hml];refine q0b (by simp) ?_;refine rQ fi155 ?_;refine eQ [0] (hs) ?_;refine eQ [1] (hr) ?_;refine cQ (q6W _) ?_;refine effP [1] (z3S c m hml) ?_;rfl
     rw [if_neg hml];refine q0b (by simp) ?_;refine rQ fi155 ?_;refine eQ [0] (hs) ?_;refine eQ [1] (hr) ?_;refine cQ (q6W _) ?_;refine eQ [1] (z4s c m (by omega)) ?_;trivial
  rw [q3y h1];have hs:=q2P i hi b n hn hb h h1;generalize takeE (tagB i) (b.drop n)=e at*;refine q0b (by simp) ?_;refine rQ fi155 ?_;refine eQ [0] (hs) ?_;exact ⟨fun _=>trivial,fun q=>absurd (by omega) h1⟩
theorem j6b(i:Nat)(hi:i<=30)(b:List UInt8)(n:Nat)(hn:n<=b.length)(hb:b.length<=1099511627776):EffX Tryz.prog 139 [.ptr 0 0,rI i,.fn 138 [] []] b n (fun v=>rS v) (needP i strP (b.drop n)):=by
 cases h:nextB i (b.drop n) with
 |false=>
  rw [q1X h,Aj];have hs:=q2R i hi b n hn h;have hl:=q2F b n hn;generalize b.length-n=q at*;refine q0b (by simp) ?_;refine rQ fi139 ?_;refine eQ [0] (hs) ?_;refine eQ [0] (hl) ?_;by_cases hq:q=0
  . simp [hq]
  simp [hq]
 |true=>
  rw [q2b h];by_cases h1:takeE (tagB i) (b.drop n)=0
  . rw [q2Q h1];have hs:=q2M i hi b n hn hb h h1;have hc:=q1s (n:=n) hb;generalize takeC (b.drop n)=c at*;generalize takeN (b.drop n)=N at*;cases hx:strP c with
    |error e=>have hr:=z6T c 0 (Al _) hc (by rw [Av];exact hx);refine q0b (by simp) ?_;refine rQ fi139 ?_;refine eQ [0] (hs) ?_;refine eQ [1] (hr) ?_;refine effP [] (q6g (.string ⟨#[]⟩) e (q6t hx)) ?_;trivial
    |ok x=>
     obtain ⟨v,m⟩:=x;have hm:=q4h _ _ _ hx;have hr:=z5Y c 0 (Al _) hc (by rw [Av];exact hx);have hl:=q2F c m hm;rw [Ae] at hr;simp only [closeP];by_cases hml:m<c.length
     . rw [if_pos hml];refine q0b (by simp) ?_;refine rQ fi139 ?_;refine eQ [0] (hs) ?_;refine eQ [1] (hr) ?_;refine cQ (q7a _) ?_;refine eQ [1] (hl) ?_;exact ⟨fun _=>rfl,fun q=>absurd (by omega) q⟩
     rw [if_neg hml];refine q0b (by simp) ?_;refine rQ fi139 ?_;refine eQ [0] (hs) ?_;refine eQ [1] (hr) ?_;refine cQ (q7a _) ?_;refine eQ [1] (hl) ?_;exact ⟨fun q=>absurd q (by omega),fun _=>trivial⟩
  rw [q3y h1];have hs:=q2P i hi b n hn hb h h1;generalize takeE (tagB i) (b.drop n)=e at*;refine q0b (by simp) ?_;refine rQ fi139 ?_;refine eQ [0] (hs) ?_;exact ⟨fun _=>trivial,fun q=>absurd (by omega) h1⟩
def zO(res:α->SV):Except Nat (α×Nat)->Out
 |.ok (v,_)=>.ret (res v)
 |.error e=>.pan (errV e)
def zH(b:List UInt8)(n m:Nat):Except Nat (α×Nat)->List SObj
 |.ok (_,k)=>[rdr b (n+k)]
 |.error _=>[rdr b m]
attribute [go_sem] zO zH
def EffZ(P:Program)(f:FuncId)(args:List SV)(b:List UInt8)(n m:Nat)(res:α->SV)(x:Except Nat (α×Nat)):Prop:=PE P f args [rdr b n] (zO res x) (zH b n m x)
def q6Q(h:VC P f args [rdr b n] (SealO (zO res x) (zH b n m x))):EffZ P f args b n m res x:=by
 cases x with
 |error e=>exact q0b (by simp [zH]) h
 |ok y=>exact q0b (by simp [zH]) h
def z2Q(h:EffZ P f args b n m res x)(hx:x= .ok (v,k)):PE P f args [rdr b n] (.ret (res v)) [rdr b (n+k)]:=by rw [hx] at h;exact h
def z1I(h:EffZ P f args b n m res x)(hx:x= .error e):PE P f args [rdr b n] (.pan (errV e)) [rdr b m]:=by rw [hx] at h;exact h
def posX(b:List UInt8)(n:Nat):Nat:=if takeE 48 (b.drop n)=0 then n+takeN (b.drop n) else n
def j2c(h:takeE 48 (b.drop n)=0):posX b n=n+takeN (b.drop n):=if_pos h
def j1T(h:takeE 48 (b.drop n)≠0):posX b n=n:=if_neg h
def tripIn:PR Key:=bindP (needP 0 intP) fun a=>bindP (needP 1 intP) fun k=>bindP (needP 2 octP) fun c=>retP ((a,k,c):Key)
def keyP:PR Key:=inP 48 tripIn
variable {f:α->PR β}
def q6G(h:p b= .ok (v,k)):bindP p f b=shiftP k (f v (b.drop k)):=by have:=q1z (f:=f) (b:=b) (n:=0) (by rw [Av];exact h);rwa [Av,Ae] at this
theorem z7Y(b:List UInt8)(n:Nat)(hn:n<=b.length)(hb:b.length<=1099511627776):
 EffZ Tryz.prog 149 [.ptr 0 0] b n (posX b n) (fun v:Key=>.tup [rI v.1,rI v.2.1,.isl .u8 v.2.2]) (keyP (b.drop n)):=by
 unfold keyP;by_cases h:takeE 48 (b.drop n)=0
 . have hs:=q5z b n hn hb h;have hc:=q1s (n:=n) hb;rw [q2Q h,j2c h];generalize takeC (b.drop n)=c at*;generalize takeN (b.drop n)=N at*;unfold tripIn;refine q6Q ?_;refine rQ fi149 ?_;refine eQ [0] (hs) ?_;refine eQ [1] (q7l c 0) ?_;have e1:=z6N 0 (by omega) c 0 (Al _) hc;rw [Av] at e1;cases h1:needP 0 intP c with
   |error e=>rw [q0X h1];have e1':=q2f e1 h1;simp only [closeP];refine effP [1] (e1') ?_;trivial
   |ok x=>
    obtain ⟨v1,k1⟩:=x;rw [q6G h1];have e1':=q0W e1 h1;have f1:=q0T _ _ _ h1;rw [Ae] at e1';refine eQ [1] (e1') ?_;have e2:=z6N 1 (by omega) c _ f1 hc;cases h2:needP 1 intP (c.drop k1) with
    |error e=>rw [q0X h2];have e2':=q2f e2 h2;simp only [shiftP,closeP];refine effP [1] (e2') ?_;trivial
    |ok x=>
     obtain ⟨v2,k2⟩:=x;rw [q1z h2];have e2':=q0W e2 h2;have f2:=q2y q0T f1 h2;refine eQ [1] (e2') ?_;have e3:=j2h 2 (by omega) c _ f2 hc;cases h3:needP 2 octP (c.drop (k1+k2)) with
     |error e=>rw [q0X h3];have e3':=q2f e3 h3;simp only [shiftP,closeP];refine effP [1] (e3') ?_;trivial
     |ok x=>
      obtain ⟨v3,k3⟩:=x;rw [q1z h3];have e3':=q0W e3 h3;have f3:=q2y q0T f2 h3;simp only [shiftP,retP,closeP];refine eQ [1] (e3') ?_;by_cases hm:k1+k2+k3<c.length
      . rw [if_pos (by omega)];refine effP [1] (z3S c _ hm) ?_;rfl
      rw [if_neg (by omega)];refine eQ [1] (z4s c (k1+k2+k3) (by omega)) ?_;trivial
 have hs:=q5Z b n hn hb h;rw [q3y h,j1T h];generalize takeE 48 (b.drop n)=e at*;refine q6Q ?_;refine rQ fi149 ?_;refine eQ [0] (hs) ?_;refine effP [] (q3L e h) ?_;trivial
theorem j5p(b:List UInt8)(n:Nat)(hn:n<=b.length)(hb:b.length<=1099511627776):
 EffZ Tryz.prog 148 [.ptr 0 0] b n (posX b n) (fun v:Key=>.agg (KeyT.cells v)) (keyP (b.drop n)):=by
 have ht:=z7Y b n hn hb;refine q6Q ?_;generalize keyP (b.drop n)=X at*;cases X with
 |error e=>have ht':=z1I ht rfl;refine rQ fi148 ?_;refine effP [0] (ht') ?_;trivial
 |ok x=>obtain ⟨v,k⟩:=x;have ht':=z2Q ht rfl;refine rQ fi148 ?_;refine eQ [0] (ht') ?_;trivial
def flat_len{α:Type}(f:α->List UInt8)(B:Nat):∀l:List α,(∀x∈l,(f x).length<=B)->(l.map f).flatten.length<=B*l.length
 | [],_=>by simp
 |x :: l,h=>by have h1:=h x (by simp);have h2:=flat_len f B l fun y hy=>h y (by simp [hy]);simp only [AC,A7,Ab,AK,Di,AD];omega
def atP(p:PR α)(l:List UInt8):PR α:=fun _=>match p l with
 |.ok (x,_)=>.ok (x,0)
 |.error e=>.error e
def strsP(l:List UInt8):PR (List ByteArray):=atP (listP strP l.length) l
def nameIn:PR Prin:=bindP (needP 0 (rdP 48 decOct)) fun l=>bindP (strsP l) fun xs=>bindP (needP 1 strP) fun t=>retP ((xs,t):Prin)
def chkP(q:α->Bool):Except Nat (α×Nat)->Except Nat (α×Nat)
 |.ok (v,k)=>if q v=true then .ok (v,k) else .error 6
 |.error e=>.error e
def nameP:PR Prin:=fun r=>chkP vPrin (inP 48 nameIn r)
def z9l{p:Prin}(h:vPrin p=true):p.1.length<=4∧(∀x∈p.1,x.size<=32)∧p.2.size<=32:=by simp only [vPrin,Am,decide_eq_true_eq,z1j,szB,q3u] at h;refine ⟨by omega,fun x hx=> ?_,by omega⟩;obtain ⟨j,hj,rfl⟩:=A9 hx;have:=h.2 j hj;rw [z5N hj] at this;simp only [vPart,szB,Am,decide_eq_true_eq] at this;omega
abbrev PreT:Ty:=.prod I64 (.slice .u8)
abbrev Pre:=PreT.den
def mIn(lo hi v:Int):Bool:=decide (lo<=v) && decide (v<=hi)
def vTime(t:Int):Bool:=mIn 0 1099511627776 t
def j5L(n:Int)(b:List UInt8):PC Tryz.prog 41 [rI n,.isl .u8 b] (.isl .u8 (wrapS 96 n b)):=by refine q0n rfl rfl ?_;refine rQ fi41 ?_;refine cQ (z1B 96 n b (by omega)) ?_;trivial
def datS(d:Pre):List UInt8:=fieldsS [intS d.1,elemS 4 [d.2]]
def dataS(l:List Pre):List UInt8:=if l.length<=16 then wholeS (mapN (t:=PreT) datS l l.length) else []
def j6t(l:List Pre):PC Tryz.prog 38 [.isl PreT l] (.isl .u8 (dataS l)):=by
 refine q0n rfl rfl ?_;refine rQ fi38 ?_;refine ⟨fun h=> ?_,fun h=> ?_⟩
 . unfold dataS;rw [if_neg (by omega)]
 have hl:l.length<=16:=by omega
 refine q5X 3 (.slice .u8) (mapN (t:=PreT) datS l) (fun i=>[(11,rI i)]) l.length (fun _=>True) rfl (by simp) (by simp [mapN]) rfl (fun i=>rfl) ?_ fun i hi _=> ?_
 . with_reducible refine sxE ?_;trivial
 have hwr:=wsx i (by omega);have hln:=z9L (t:=PreT) (w:=datS) hi;refine gQ ?_;refine ⟨fun hlt=>⟨⟨by omega,hlt⟩,q0c (q2E _) ?_⟩,fun hge=> ?_⟩
 . refine gQ ?_;refine cR (z0e _) ?_;refine q0G 2 (by decide) ?_;with_reducible refine sxE ?_
   refine cR (z3Z _ (by simp)) ?_;have hst:=z8g (t:=PreT) (w:=datS) hlt;refine ⟨⟨by omega,by omega⟩,q3j [_,_,_,_] [] hlt trivial (by rw [hst];rfl) ?_⟩;with_reducible refine sx3 hwr hst ?_;trivial
 obtain rfl:i=l.length:=by omega
 refine q0z 0 ?_;with_reducible refine sxE ?_
 refine ⟨by omega,Af _,?_⟩;rw [Ad (Af _)];refine cQ (z5K _ (by omega)) ?_;unfold dataS;rw [if_pos hl]
def ErrP(p:PR α):Prop:=∀r e,p r= .error e->e≠0
def q3N{dec:List UInt8->Option α}:ErrP (rdP tag dec):=fun _ _ h=>q6t h
def q7U(hp:ErrP p):ErrP (inP tag p):=fun r e h=>by
 rcases q7v (tag:=tag) (p:=p) (r:=r) with ⟨h1,e'⟩ | ⟨_,e1,h2,e'⟩ | ⟨_,_,_,_,_,e'⟩ | ⟨_,_,_,_,_,e'⟩ <;>rw [e'] at h<;>cases h
 . exact h1
 . exact hp _ _ h2
 decide
def q2C(hp:ErrP p):ErrP (needP n p):=fun r e h=>by
 cases hb:nextB n r with
 |false=>rw [q1X hb] at h;split at h<;>cases h<;>decide
 |true=>rw [q2b hb] at h;exact q7U hp r e h
def q2e(hp:ErrP p)(hf:∀v,ErrP (f v)):ErrP (bindP p f):=fun r e h=>by
 unfold bindP at h;cases h1:p r with
 |error e1=>rw [h1] at h;cases h;exact hp r _ h1
 |ok y=>
  obtain ⟨u,k⟩:=y;rw [h1] at h;simp only at h;cases h2:f u (r.drop k) with
  |error e2=>rw [h2] at h;cases h;exact hf u _ _ h2
  |ok z=>obtain ⟨w,l⟩:=z;rw [h2] at h;cases h
def q8T:ErrP (retP v):=fun _ _ h=>by cases h
def j4N:ErrP keyP:=q7U (q2e (q2C q3N) fun _=>q2e (q2C q3N) fun _=>q2e (q2C q3N) fun _=>q8T)
def EffR(P:Program)(f:FuncId)(args:List SV)(b:List UInt8)(n:Nat)(res:α->SV)(z:SV):Except Nat (α×Nat)->Prop
 |.ok (v,k)=>PE P f args [rdr b n] (.ret (.tup [res v,rI 0])) [rdr b (n+k)]
 |.error e=>PE P f args [rdr b n] (.ret (.tup [z,rI e])) [rdr b n]
variable {f:FuncId}{z:SV}
def q3K(h:EffR P f args b n res z x)(hx:x= .ok (v,k)):PE P f args [rdr b n] (.ret (.tup [res v,rI 0])) [rdr b (n+k)]:=by rw [hx] at h;exact h
def q3I(h:EffR P f args b n res z x)(hx:x= .error e):PE P f args [rdr b n] (.ret (.tup [z,rI e])) [rdr b n]:=by rw [hx] at h;exact h
abbrev zKey:SV:=.agg [rI 0,rI 0,.isl .u8 []]
def j4G(b:List UInt8)(n m e:Nat)(T2 T4 T5 T6:TypeId)(y:Value)(K:List SObj->Prop)
 (h:∀G,K ([rdr b n,.cells T2 [.ptr 0 0],.cells T4 [rI 0,rI 0,.raw (.slice none 0 0)],.cells T5 [rI e],.cells T6 [rI n]]++G)):
 DCall Tryz.prog 188 [.ptr 4 0,.ptr 1 0,.ptr 2 0,.ptr 3 0] (some (errV e)) [rdr b m,.cells T2 [.ptr 0 0],.cells T4 [rI 0,rI 0,.raw (.slice none 0 0)],.cells T5 [.raw y],.cells T6 [rI n]] K:=by
 refine j3b fi188 ?_;refine uQ 16 _ ?_;with_reducible refine sxE ?_
 refine q1r [999999,1,4,5] mixed ?_;refine uQ 600 _ ?_;simp (maxSteps:=3000000) only [List.getElem?_nil,go_sem,↓zA,↓reduceIte,↓reduceDIte] <;>try simp only [zB]
 exact h _
def j2C(H:List SObj)(K:List SObj->Prop)(h:∀G,K (H++G)):DCall Tryz.prog 188 [.ptr 4 0,.ptr 1 0,.ptr 2 0,.ptr 3 0] none H K:=by refine recE mixed fi188 ?_;simpa using h []
theorem j6j(b:List UInt8)(n:Nat)(hn:n<=b.length)(hb:b.length<=1099511627776):
 EffR Tryz.prog 147 [.ptr 0 0,.fn 148 [] []] b n (fun v:Key=>.agg (KeyT.cells v)) zKey (keyP (b.drop n)):=by
 have hk:=j5p b n hn hb;generalize keyP (b.drop n)=X at*;cases X with
 |error e=>have hk':=z1I hk rfl;refine q0b (by simp) ?_;refine defE mixed fi147 ?_;refine gQ ?_;refine effP [0] (hk') ?_;refine ⟨by simp,j4G b n _ e _ _ _ _ _ _ fun G=> ?_⟩;with_reducible refine sxE ?_;trivial
 |ok x=>obtain ⟨v,k⟩:=x;have hk':=z2Q hk rfl;refine q0b (by simp) ?_;refine defE mixed fi147 ?_;refine gQ ?_;refine eQ [0] (hk') ?_;refine j2C _ _ fun G=> ?_;with_reducible refine sxE ?_;trivial
theorem j4C(b:List UInt8)(n:Nat)(hn:n<=b.length)(hb:b.length<=1099511627776):
 EffR Tryz.prog 77 [.ptr 0 0] b n (fun v:Key=>.agg (KeyT.cells v)) zKey (keyP (b.drop n)):=by
 have hk:=j6j b n hn hb;generalize keyP (b.drop n)=X at*;cases X with
 |error e=>have hk':=q3I hk rfl;refine q0b (by simp) ?_;refine rQ fi77 ?_;refine eQ [0] (hk') ?_;trivial
 |ok x=>obtain ⟨v,k⟩:=x;have hk':=q3K hk rfl;refine q0b (by simp) ?_;refine rQ fi77 ?_;refine eQ [0] (hk') ?_;trivial
def FR(i:Nat)(b:List UInt8)(n:Nat):Except Nat (List UInt8×Nat)->Prop
 |.ok (l,k)=>PE Tryz.prog 136 [.ptr 0 0,rI i,.fn 66 [] []] [rdr b n] (.ret (.ptr 2 0)) [rdr b (n+k),.dead,rdr l 0]
 |.error e=>PE Tryz.prog 136 [.ptr 0 0,rI i,.fn 66 [] []] [rdr b n] (.pan (errV e)) [.dead]
theorem j5B(i:Nat)(hi:i<=30)(b:List UInt8)(n:Nat)(hn:n<=b.length)(hb:b.length<=1099511627776):FR i b n (needP i (rdP 48 decOct) (b.drop n)):=by
 cases h:nextB i (b.drop n) with
 |false=>
  rw [q1X h,Aj];have hs:=q2R i hi b n hn h;have hl:=q2F b n hn;generalize b.length-n=q at*;refine q0b (by simp) ?_;refine rQ fi136 ?_;refine eQ [0] (hs) ?_;refine eQ [0] (hl) ?_;by_cases hq:q=0
  . simp [hq]
  simp [hq]
 |true=>
  rw [q2b h];by_cases h1:takeE (tagB i) (b.drop n)=0
  . rw [q2Q h1];have hs:=q2M i hi b n hn hb h h1;have hc:=q1s (n:=n) hb;generalize takeC (b.drop n)=c at*;generalize takeN (b.drop n)=N at*;by_cases h2:takeE 48 c=0
    . have hx:rdP 48 decOct c= .ok (takeC c,takeN c):=by unfold rdP;rw [if_pos h2];rfl
      rw [hx];have hr:=q5z c 0 (Al _) hc (by rw [Av];exact h2);rw [Av,Ae] at hr;have hm:=q3i h2;generalize takeC c=l at*;generalize takeN c=m at*;have hl:=q2F c m hm;simp only [closeP];by_cases hml:m<c.length
      . rw [if_pos hml];refine q0b (by simp) ?_;refine rQ fi136 ?_;refine eQ [0] (hs) ?_;refine eQ [1] (hr) ?_;refine eQ [2] (q7k l 0) ?_;refine eQ [1] (hl) ?_;exact ⟨fun _=>rfl,fun q=>absurd (by omega) q⟩
      rw [if_neg hml];refine q0b (by simp) ?_;refine rQ fi136 ?_;refine eQ [0] (hs) ?_;refine eQ [1] (hr) ?_;refine eQ [2] (q7k l 0) ?_;refine eQ [1] (hl) ?_;exact ⟨fun q=>absurd q (by omega),fun _=>trivial⟩
    have hx:rdP 48 decOct c= .error (takeE 48 c):=by unfold rdP;rw [if_neg h2]
    rw [hx];have hr:=q5Z c 0 (Al _) hc (by rw [Av];exact h2);rw [Av] at hr;generalize takeE 48 c=e at*;refine q0b (by simp) ?_;refine rQ fi136 ?_;refine eQ [0] (hs) ?_;refine eQ [1] (hr) ?_;refine effP [] (q6n e h2) ?_;trivial
  rw [q3y h1];have hs:=q2P i hi b n hn hb h h1;generalize takeE (tagB i) (b.drop n)=e at*;refine q0b (by simp) ?_;refine rQ fi136 ?_;refine eQ [0] (hs) ?_;exact ⟨fun _=>trivial,fun q=>absurd (by omega) h1⟩
def z6t(b:List UInt8)(n:Nat):PE Tryz.prog 133 [.ptr 0 0] [rdr b n] (.ret (.ptr 1 0)) [rdr b n,rdr b n]:=by refine q0b (by simp) ?_;refine rQ fi133 ?_;trivial
def q5B(b:List UInt8)(n m e:Nat)(T2 T3 T4 T5:TypeId)(x y:SV)(z:Value)(R:List SObj)(K:List SObj->Prop)
 (h:K ([rdr b n,.cells T2 [.ptr 0 0],.cells T3 [.raw (.slice none 0 0),rS ⟨#[]⟩],.cells T4 [rI e],rdr b n,.cells T5 [.ptr 4 0]]++R)):
 DCall Tryz.prog 134 [.ptr 5 0,.ptr 1 0,.ptr 2 0,.ptr 3 0] (some (errV e)) ([rdr b m,.cells T2 [.ptr 0 0],.cells T3 [x,y],.cells T4 [.raw z],rdr b n,.cells T5 [.ptr 4 0]]++R) K:=by
 refine j3b fi134 ?_;refine uQ 13 _ ?_;with_reducible refine sxaE ?_
 refine q1r [1,4,5] mixed ?_;refine aQ ?_;exact h
abbrev zPrin:SV:=.agg [.isl .str [],rS ⟨#[]⟩]
def rO(res:α->SV)(z:SV):Except Nat (α×Nat)->Out
 |.ok (v,_)=>.ret (.tup [res v,rI 0])
 |.error e=>.ret (.tup [z,rI e])
def rH(b:List UInt8)(n:Nat):Except Nat (α×Nat)->List SObj
 |.ok (_,k)=>[rdr b (n+k)]
 |.error _=>[rdr b n]
attribute [go_sem] rO rH
def j5e(h:VC P f args [rdr b n] (SealO (rO res z x) (rH b n x))):EffR P f args b n res z x:=by
 cases x with
 |error e=>exact q0b (by simp [rH]) h
 |ok y=>exact q0b (by simp [rH]) h
theorem j4L(b:List UInt8)(n:Nat)(hn:n<=b.length)(hb:b.length<=1099511627776)(h:takeE 48 (b.drop n)≠0):
 EffR Tryz.prog 72 [.ptr 0 0] b n (fun p:Prin=>.agg (PrinT.cells p)) zPrin (nameP (b.drop n)):=by
 have hs:=q5Z b n hn hb h;have he:nameP (b.drop n)= .error (takeE 48 (b.drop n)):=by unfold nameP;rw [q3y h];rfl
 rw [he];clear he;generalize takeE 48 (b.drop n)=e at*;refine q0b (by simp) ?_;refine defE mixed fi72 ?_;refine eQ [0] (z6t b n) ?_;refine gQ ?_;refine eQ [0] (hs) ?_;refine effP [] (q6n e h) ?_;refine ⟨by simp,q5B b n n e _ _ _ _ _ _ _ [] _ ?_⟩;with_reducible refine sxE ?_;trivial
variable {f:List ByteArray->PR β}
def j1e{l:List UInt8}(h:listP strP l.length l= .error e):bindP (strsP l) f r= .error e:=by unfold bindP strsP atP;rw [h]
theorem j0Z{l:List UInt8}{xs:List ByteArray}(h:listP strP l.length l= .ok (xs,m)):bindP (strsP l) f r=shiftP 0 (f xs r):=by
 unfold bindP strsP atP;rw [h];simp only [Av];cases f xs r with
 |error e=>rfl
 |ok y=>rfl
def j1v{j:Nat}:shiftP j (shiftP k x)=shiftP (j+k) x:=by
 cases x with
 |error e=>rfl
 |ok y=>obtain ⟨u,m⟩:=y;simp only [shiftP,Nat.add_assoc]
def j2D(H:List SObj)(K:List SObj->Prop)(h:∀G,K (H++G)):DCall Tryz.prog 134 [.ptr 5 0,.ptr 1 0,.ptr 2 0,.ptr 3 0] none H K:=by refine recE mixed fi134 ?_;simpa using h []
theorem j4u(b:List UInt8)(n:Nat)(hn:n<=b.length)(hb:b.length<=1099511627776)(h:takeE 48 (b.drop n)=0):
 EffR Tryz.prog 72 [.ptr 0 0] b n (fun p:Prin=>.agg (PrinT.cells p)) zPrin (nameP (b.drop n)):=by
 have hs:=q5z b n hn hb h;have hc:=q1s (n:=n) hb;have he:nameP (b.drop n)=chkP vPrin (closeP (takeC (b.drop n)).length (takeN (b.drop n)) (nameIn (takeC (b.drop n)))):=by unfold nameP;rw [q2Q h]
 generalize nameP (b.drop n)=Y at*;generalize takeC (b.drop n)=c at*;generalize takeN (b.drop n)=N at*;refine j5e ?_;unfold nameIn at he;have f0:=j5B 0 (by omega) c 0 (Al _) hc;rw [Av] at f0;refine defE mixed fi72 ?_;refine eQ [0] (z6t b n) ?_;refine gQ ?_;refine eQ [0] (hs) ?_;refine eQ [6] (q7k c 0) ?_;cases h1:needP 0 (rdP 48 decOct) c with
 |error e=>rw [q0X h1] at he;subst he;rw [h1] at f0;have f0':PE Tryz.prog 136 [.ptr 0 0,rI (0:Nat),.fn 66 [] []] [rdr c 0] (.pan (errV e)) [.dead]:=f0;simp only [closeP,chkP];refine effP [6] (f0') ?_;refine ⟨by simp,q5B b n _ e _ _ _ _ _ _ _ [_] _ ?_⟩;with_reducible refine sxE ?_;trivial
 |ok x=>
  obtain ⟨l,k⟩:=x;rw [q6G h1] at he;have hk:=q0T _ _ _ h1;rw [h1] at f0;have f0':PE Tryz.prog 136 [.ptr 0 0,rI (0:Nat),.fn 66 [] []] [rdr c 0] (.ret (.ptr 2 0)) [rdr c (0+k),.dead,rdr l 0]:=f0;rw [Ae] at f0';refine eQ [6] (f0') ?_;have hlb:l.length<=1099511627776:=(q4Q (z7g (Q:=fun v:List UInt8=>v.length<=1099511627776) fun c v hc hd=>by unfold decOct at hd;cases hd;exact hc)) c l k hc h1;generalize hX:listP strP l.length l=X;refine q4e 2 0 .str rfl rfl rfl ?_;with_reducible refine sxE ?_
  refine q0k (ι:=Nat×List ByteArray×List SObj) (fun s=>[]) (fun s=>[rdr b (n+N),.cells 82 [.ptr 0 0],.cells 24 [.bld (s.2.2.length+9) .str s.2.1.length,rS ⟨#[]⟩],.cells 33 [rI 0],rdr b n,.cells 82 [.ptr 4 0],rdr c k,.dead,rdr l s.1]++s.2.2++ [.row .str s.2.1]) (fun s=>l.length-s.1) (fun s=>s.2.1.length<=s.1∧s.1<=l.length∧(∀x∈s.2.1,x.size<=1099511627776)∧X=tailP s.2.1 s.1 (listP strP (l.length-s.2.1.length) (l.drop s.1))) (0,[],[]) ⟨Af _,Al _,by simp,?_⟩ rfl ?_ ?_
  . rw [Av,De,CM,z3X];exact hX.symm
  . with_reducible refine sxE ?_;trivial
  rintro ⟨m,xs,G⟩ ⟨i1,i2,i4,i3⟩;dsimp only at i1 i2 i3 i4;have hleft:=q2F l m i2;refine aQ ?_;refine q0i [8] hleft rfl (by decide) ⟨rfl,rfl,trivial⟩ rfl rfl ?_;simp only [afterO,Out.ren,SV.ren,mgA,sig,SObj.ren,SV.renL,AH,Ax,List.append_assoc,Bh,Bi,List.set,List.map,Ah];refine uQ 5 _ ?_;with_reducible refine sxaE ?_
  refine ⟨fun hp0=> ?_,fun hp0=> ?_⟩
  . have hml:m<l.length:=by omega
    refine z2N [2] mixed ?_;refine aQ ?_;cases hp:strP (l.drop m) with
    |error e=>
     have hr:=z6T l m i2 hlb hp;have hXe:=i3.trans (q3A hml (by omega) hp);rw [j1e (hX.trans hXe)] at he;subst he;simp only [shiftP,closeP,chkP];refine q0s [8] hr rfl (by decide) ⟨rfl,rfl,trivial⟩ rfl rfl ?_ ?_
     . simp (maxSteps:=3000000) only [mgA,sig,q0w,q0D,List.append_assoc,getA,getA0,setA,setA0,Ab,Nat.add_assoc,go_sem,↓zA,↓reduceIte,↓reduceDIte] <;>try simp only [zB]
     refine rnE ?_;refine aQ ?_;refine q0s [] (q6g (.string ⟨#[]⟩) e (q6t hp)) rfl (by decide) trivial rfl rfl ?_ ?_
     . simp (maxSteps:=3000000) only [mgA,sig,q0w,q0D,List.append_assoc,getA,getA0,setA,setA0,Ab,Nat.add_assoc,go_sem,↓zA,↓reduceIte,↓reduceDIte] <;>try simp only [zB]
     refine rnE ?_;refine z3H ?_;with_reducible refine sxaE ?_
     refine ⟨by simp,?_⟩;have hpan:=fun K hK=>q5B b n (n+N) e 82 24 33 82 (.bld (G.length+9) .str xs.length) (rS ⟨#[]⟩) (.int .i64 0) ([rdr c k,.dead,rdr l m]++G++ [.row .str xs]) K hK;simp only [AH,Ax,List.append_assoc] at hpan;refine hpan _ ?_;with_reducible refine sxaE ?_;trivial
    |ok y=>
     obtain ⟨v,q⟩:=y;have hr:=z5Y l m i2 hlb hp;have hfit:=j1P hp;have hq2:=z5M (q6l hp).1;have hq:2<=q:=by rw [(q6l hp).2.2];exact hq2
     have hvs:=z6k (l.drop m) v q (by rw [Aj];omega) hp;rw [Aj] at hfit;have hXs:=i3.trans (q8v hml (by omega) hp);refine q0s [8] hr rfl (by decide) ⟨rfl,rfl,trivial⟩ rfl rfl ?_ ?_
     . simp (maxSteps:=3000000) only [mgA,sig,q0w,q0D,List.append_assoc,getA,getA0,setA,setA0,Ab,Nat.add_assoc,go_sem,↓zA,↓reduceIte,↓reduceDIte] <;>try simp only [zB]
     refine rnE ?_;refine aQ ?_;refine q0c (q7a _) ?_;refine aQ ?_;refine ⟨by show v.size<=_;omega,⟨by omega,by omega⟩,z8y ?_⟩;refine aQ ?_;refine ⟨(m+q,xs++ [v],G++ [.dead,.row .str [v]]),⟨by simp;omega,by dsimp only;omega,fun x hx=> ?_,?_⟩,by dsimp only;omega,?_,?_⟩
     . rcases BV.1 hx with hx|hx
       . exact i4 x hx
       rw [CN] at hx;subst hx;exact hvs
     . dsimp only;rw [hXs,Ab,Bx,Nat.sub_sub]
     . simp
     with_reducible refine sxaE ?_;trivial
  have hXe:=i3.trans (z1s (by omega));rw [j0Z (hX.trans hXe),j1v,AB] at he;clear hX hXe i3;refine z4G (ty:=.str) (xs:=xs) [rdr b (n+N),.cells 82 [.ptr 0 0],.cells 24 [.bld (G.length+9) .str xs.length,rS ⟨#[]⟩],.cells 33 [rI 0],rdr b n,.cells 82 [.ptr 4 0],rdr c k,.dead,rdr l m] [rdr b (n+N),.cells 82 [.ptr 0 0],.cells 24 [.bld 9 .str xs.length,rS ⟨#[]⟩],.cells 33 [rI 0],rdr b n,.cells 82 [.ptr 4 0],rdr c k,.dead,rdr l m] G rfl (by simp) (by simp) ?_ (by rfl) ?_ ?_ ?_
  . simp [SObj.ren,SV.ren,SV.renL,shift,Bs]
  . rfl
  . with_reducible refine sxE ?_;trivial
  with_reducible refine sxE ?_
  have hxs:xs.length<=1099511627776:=by omega
  refine q1j 9 rfl rfl (by omega) ?_ ?_ ?_
  . with_reducible refine sxE ?_
    exact Af _
  . with_reducible refine sxE ?_;trivial
  with_reducible refine sxE ?_
  rw [Ad (Af _)];have hf1:=j6b 1 (by omega) c k hk hc;cases h2:needP 1 strP (c.drop k) with
  |error e=>rw [q0X h2] at he;subst he;have hf1':=q2f hf1 h2;simp only [shiftP,closeP,chkP];refine gQ ?_;refine effP [6] (hf1') ?_;refine ⟨by simp,?_⟩;have hpan:=fun K hK=>q5B b n (n+N) e 82 24 33 82 (.isl .str xs) (rS ⟨#[]⟩) (.int .i64 0) [.dead,.dead,rdr l m,.dead] K hK;simp only [AH,Ax,List.append_assoc] at hpan;refine hpan _ ?_;with_reducible refine sxE ?_;trivial
  |ok y=>
   obtain ⟨t,q⟩:=y;rw [q1z h2] at he;have hf1':=q0W hf1 h2;have hkq:=q2y q0T hk h2;have hts:=q4Q z6k (c.drop k) t q (by rw [Aj];omega) h2;have hlq:=q2F c (k+q) hkq;simp only [shiftP,retP,closeP] at he;refine gQ ?_;refine eQ [6] (hf1') ?_;refine eQ [6] (hlq) ?_;refine ⟨fun hle=>q0a (q6M (xs,t) ⟨⟨by show xs.length<=_;omega,fun x hx=>by have:=i4 x hx;show x.size<=_;omega⟩,by show t.size<=_;omega⟩) ?_,fun hgt=>⟨by simp,?_⟩⟩
   . rw [if_neg (by omega)] at he;simp only [chkP] at he;cases hv:vPrin (xs,t) with
     |true=>rw [if_pos hv] at he;subst he;refine gQ ?_;refine j2D _ _ fun G=> ?_;with_reducible refine sxE ?_;trivial
     |false=>rw [if_neg (by rw [hv];decide)] at he;subst he;refine gQ ?_;refine ⟨by simp,?_⟩;have hpan:=fun K hK=>q5B b n (n+N) 6 82 24 33 82 (.isl .str xs) (rS t) (.int .i64 0) [rdr c (k+q),.dead,rdr l m,.dead] K hK;simp only [AH,Ax,List.append_assoc] at hpan;refine hpan _ ?_;with_reducible refine sxE ?_;trivial
   rw [if_pos (by omega)] at he;simp only [chkP] at he;subst he;have hpan:=fun K hK=>q5B b n (n+N) 6 82 24 33 82 (.isl .str xs) (rS t) (.int .i64 0) [rdr c (k+q),.dead,rdr l m,.dead] K hK;simp only [AH,Ax,List.append_assoc] at hpan;refine hpan _ ?_;with_reducible refine sxE ?_;trivial
def z9c{Q':α->Prop}(h:OkP p Q)(hq:∀v,Q v->Q' v):OkP p Q':=fun r v m hr hx=>hq v (h r v m hr hx)
theorem j2v{p:PR Prin}{Q:Prin->Prop}(hq:∀v,vPrin v=true->Q v):OkP (fun r=>chkP vPrin (p r)) Q:=fun r v m _ hx=>by
 have hx:chkP vPrin (p r)= .ok (v,m):=hx;cases hp:p r with
 |error e=>rw [hp] at hx;cases hx
 |ok y=>
  obtain ⟨u,k⟩:=y;rw [hp] at hx;simp only [chkP] at hx;split at hx
  . cases hx;exact hq _ (by assumption)
  cases hx
def j3Z{p:Prin}(h:vPrin p=true):PrinT.ok p:=by obtain ⟨h1,h2,h3⟩:=z9l h;exact ⟨⟨by omega,fun x hx=>by have:=h2 x hx;show x.size<=_;omega⟩,by show p.2.size<=_;omega⟩
def j0b:OkP nameP PrinT.ok:=j2v fun _ h=>j3Z h
def z2W:OkP octP (Ty.slice .u8).ok:=z7g fun c v hc hd=>by unfold decOct at hd;cases hd;exact ⟨by show c.length<=_;omega,fun _ _=>trivial⟩
def j7f{t:Ty}{p:PR t.den}(n:Nat)(hn:n<=1000)(h:OkP p t.ok):OkP (inP 48 (listP p n)) (Ty.slice t).ok:=z1y (z9c (z3l h n) fun v hv=>⟨by have:=hv.1;omega,hv.2⟩)
def j3Y:OkP keyP KeyT.ok:=z1y (q5h (Q1:=fun _=>True) q9Z fun _ _=>q5h (Q1:=fun _=>True) q9Z fun _ _=>q5h (q4Q z2W) fun _ hc=>z7x ⟨trivial,trivial,hc⟩)
def q6U{α:Type}{p:PR α}(hp:ErrP p):∀n,ErrP (listP p n)
 |0,r,e,h=>by
  simp only [listP] at h;split at h<;>cases h
  decide
 |n+1,r,e,h=>by
  simp only [listP] at h;split at h
  . cases h
  cases h1:p r with
  |error e1=>rw [h1] at h;cases h;exact hp r _ h1
  |ok y=>
   obtain ⟨u,k⟩:=y;rw [h1] at h;simp only at h;cases h2:listP p n (r.drop k) with
   |error e2=>rw [h2] at h;cases h;exact q6U hp n _ _ h2
   |ok z=>obtain ⟨w,l⟩:=z;rw [h2] at h;cases h
def j0r:ErrP nameP:=fun r e h=>by
 have hin:ErrP (inP 48 nameIn):=q7U (q2e (q2C q3N) fun l=>q2e (fun r' e' h'=>by
  unfold strsP atP at h';cases h1:listP strP l.length l with
  |error e1=>rw [h1] at h';cases h';exact q6U q3N _ _ _ h1
  |ok y=>obtain ⟨u,k⟩:=y;rw [h1] at h';cases h') fun _=>q2e (q2C q3N) fun _=>q8T)
 unfold nameP at h;cases h1:inP 48 nameIn r with
 |error e1=>rw [h1] at h;cases h;exact hin r _ h1
 |ok y=>
  obtain ⟨u,k⟩:=y;rw [h1] at h;simp only [chkP] at h;split at h<;>cases h
  decide
def z4K:FitsP nameP:=fun r v m h=>by
 unfold nameP at h;cases h1:inP 48 nameIn r with
 |error e1=>rw [h1] at h;cases h
 |ok y=>
  obtain ⟨u,k⟩:=y;rw [h1] at h;simp only [chkP] at h;split at h
  . cases h;exact q5c r _ _ h1
  cases h
def j6c(b:List UInt8)(n:Nat)(hn:n<=b.length)(hb:b.length<=1099511627776):
 EffR Tryz.prog 72 [.ptr 0 0] b n (fun p:Prin=>.agg (PrinT.cells p)) zPrin (nameP (b.drop n)):=by
 by_cases h:takeE 48 (b.drop n)=0
 . exact j4u b n hn hb h
 exact j4L b n hn hb h
def appB(n:Nat):UInt8:=byteOf (96+n)
def j2a(hm:m<=30):IntKind.u8.wrap (IntKind.i64.wrap (96+ (m:Int)))=((appB m).toNat:Int):=by rw [wrapi (by omega)];exact (q5N _).symm
theorem j4l(m:Nat)(hm:m<=30)(b:List UInt8)(n:Nat)(hn:n<=b.length)(hb:b.length<=1099511627776)(ht:takeE (appB m) (b.drop n)=0):
 PE Tryz.prog 65 [.ptr 0 0,rI m] [rdr b n] (.ret (.tup [.ptr 1 0,rI 0])) [rdr b (n+takeN (b.drop n)),rdr (takeC (b.drop n)) 0]:=by
 have hd:=q9i (appB m) b n hn hb ht;have hu:=j2a hm;generalize takeC (b.drop n)=c at*;generalize takeN (b.drop n)=k at*;refine q0b (by simp) ?_;refine rQ fi65 ?_;refine ⟨fun _=>⟨fun h30=>absurd h30 (by omega),fun _=> ?_⟩,fun hneg=>by exfalso;omega⟩;rw [hu];refine eQ [0] (hd) ?_;trivial
theorem j2O(m:Nat)(hm:m<=30)(b:List UInt8)(n:Nat)(hn:n<=b.length)(hb:b.length<=1099511627776)(ht:takeE (appB m) (b.drop n)≠0):
 PE Tryz.prog 65 [.ptr 0 0,rI m] [rdr b n] (.ret (.tup [.raw (.pointer none),rI (takeE (appB m) (b.drop n))])) [rdr b n]:=by
 have hd:=q9A (appB m) b n hn hb ht;have hu:=j2a hm;generalize takeE (appB m) (b.drop n)=e at*;refine q0b (by simp) ?_;refine rQ fi65 ?_;refine ⟨fun _=>⟨fun h30=>absurd h30 (by omega),fun _=> ?_⟩,fun hneg=>by exfalso;omega⟩;rw [hu];refine eQ [0] (hd) ?_;trivial
def cstP(v:Int):PR Unit:=fun r=>match intP r with
 |.ok (w,k)=>if w=v then .ok ((),k) else .error 6
 |.error e=>.error e
def datIn:PR Pre:=bindP (needP 0 intP) fun a=>bindP (needP 1 octP) fun c=>retP ((a,c):Pre)
def datP:PR Pre:=inP 48 datIn
def dataP:PR (List Pre):=inP 48 (listP datP 16)
def j2s:ErrP datP:=q7U (q2e (q2C q3N) fun _=>q2e (q2C q3N) fun _=>q8T)
def z9C:ErrP dataP:=q7U (q6U j2s 16)
theorem j3B(b:List UInt8)(n:Nat)(hn:n<=b.length)(hb:b.length<=1099511627776):
 EffZ Tryz.prog 152 [.ptr 0 0] b n (posX b n) (fun l:List Pre=>.isl PreT l) (dataP (b.drop n)):=by
 unfold dataP;by_cases h:takeE 48 (b.drop n)=0
 . have hs:=q5z b n hn hb h;have hc:=q1s (n:=n) hb;rw [q2Q h,j2c h];generalize takeC (b.drop n)=c at*;generalize takeN (b.drop n)=N at*;generalize hX:listP datP 16 c=X;refine q6Q ?_;refine rQ fi152 ?_;refine eQ [0] (hs) ?_;refine eQ [1] (q7l c 0) ?_;refine z1k 2 PreT rfl rfl ?_;with_reducible refine sxE ?_
   refine q0k (ι:=Nat×List Pre×List SObj) (fun s=>[(2,.bld (s.2.2.length+2) PreT s.2.1.length)]) (fun s=>[rdr b (n+N),rdr c s.1]++s.2.2++ [.row PreT s.2.1]) (fun s=>20-s.2.1.length) (fun s=>s.2.1.length<=16∧s.1<=c.length∧X=tailP s.2.1 s.1 (listP datP (16-s.2.1.length) (c.drop s.1))) (0,[],[]) ⟨Al _,Al _,?_⟩ rfl ?_ ?_
   . rw [Av,z3X];exact hX.symm
   . with_reducible refine sxE ?_;trivial
   rintro ⟨k,xs,G⟩ ⟨i1,i2,i3⟩;dsimp only at i1 i2 i3;refine z2L (ty:=PreT) (xs:=xs) 2 xs.length [rdr b (n+N),rdr c k] [rdr b (n+N),rdr c k] G rfl (by simp) (by simp) ?_ (by rfl) ?_ ?_ ?_
   . simp [SObj.ren,SV.ren,SV.renL]
   . rfl
   . with_reducible refine sxE ?_
     exact congrArg (fun q=>SV.bld q PreT xs.length) (Bs _ _)
   have hleft:=q2F c k i2;refine gQ ?_;refine eQ [1] (hleft) ?_;refine ⟨fun hp0=>⟨fun h16=> ?_,fun h16=> ?_⟩,fun hp0=> ?_⟩
   . have h0:16-xs.length=0:=by omega
     rw [h0] at i3;rw [i3.trans (z5h (by omega))];simp only [closeP];with_reducible refine sxE ?_
     rfl
   . have hkl:k<c.length:=by omega
     have hlt:0<16-xs.length:=by omega
     by_cases g0:takeE 48 (c.drop k)=0
     . have hs1:=q5z c k i2 hc g0;have hq:=q1s (n:=k) hc;have hD:datP (c.drop k)=closeP (takeC (c.drop k)).length (takeN (c.drop k)) (datIn (takeC (c.drop k))):=q2Q g0;have hM:=q3i g0;rw [Aj] at hM;generalize takeC (c.drop k)=s at*;generalize takeN (c.drop k)=M at*;unfold datIn at hD;refine eQ [1] (hs1) ?_;refine eQ [3] (q7l s 0) ?_;have e1:=z6N 0 (by omega) s 0 (Al _) hq;rw [Av] at e1;cases h1:needP 0 intP s with
       |error e=>rw [q0X h1] at hD;rw [i3.trans (q3A hkl hlt hD)];have e1':=q2f e1 h1;simp only [closeP];refine effP [3] (e1') ?_;trivial
       |ok y=>
        obtain ⟨v1,k1⟩:=y;rw [q6G h1] at hD;have e1':=q0W e1 h1;have f1:=q0T _ _ _ h1;rw [Ae] at e1';refine eQ [3] (e1') ?_;have e2:=j2h 1 (by omega) s _ f1 hq;cases h2:needP 1 octP (s.drop k1) with
        |error e=>rw [q0X h2] at hD;rw [i3.trans (q3A hkl hlt hD)];have e2':=q2f e2 h2;simp only [closeP];refine effP [3] (e2') ?_;trivial
        |ok y=>
         obtain ⟨v2,k2⟩:=y;rw [q1z h2] at hD;have e2':=q0W e2 h2;have f2:=q2y q0T f1 h2;simp only [shiftP,retP,closeP,AB] at hD;refine eQ [3] (e2') ?_;by_cases hm:k1+k2<s.length
         . rw [if_pos hm] at hD;rw [i3.trans (q3A hkl hlt hD)];simp only [closeP];refine effP [3] (z3S s _ hm) ?_;rfl
         rw [if_neg hm] at hD;have hX':=i3.trans (q8v hkl hlt hD);refine eQ [3] (z4s s (k1+k2) (by omega)) ?_;refine ⟨⟨by omega,by omega⟩,(k+M,xs++ [(v1,v2)],[.dead,rdr s (k1+k2),.row PreT [(v1,v2)]]),⟨by simp;omega,by dsimp only;omega,?_⟩,by simp;omega,rfl,?_⟩
         . dsimp only;rw [hX',Ab,Bx,Nat.sub_sub]
         with_reducible refine sxE ?_;trivial
     have hs1:=q5Z c k i2 hc g0;have hD:datP (c.drop k)= .error (takeE 48 (c.drop k)):=q3y g0;rw [i3.trans (q3A hkl hlt hD)];generalize takeE 48 (c.drop k)=e at*;simp only [closeP];refine eQ [1] (hs1) ?_;refine effP [] (q3L e g0) ?_;trivial
   rw [i3.trans (z1s (by omega))];simp only [closeP];rw [if_neg (by omega)];with_reducible refine sxE ?_
   exact ⟨⟨Af _,by omega⟩,Ad (Af _)⟩
 have hs:=q5Z b n hn hb h;rw [q3y h,j1T h];generalize takeE 48 (b.drop n)=e at*;refine q6Q ?_;refine rQ fi152 ?_;refine eQ [0] (hs) ?_;refine effP [] (q3L e h) ?_;trivial
def j2N(b:List UInt8)(n m e:Nat)(T2 T4 T5 T6:TypeId)(y:Value)(K:List SObj->Prop)
 (h:∀G,K ([rdr b n,.cells T2 [.ptr 0 0],.cells T4 [.raw (.slice none 0 0)],.cells T5 [rI e],.cells T6 [rI n]]++G)):
 DCall Tryz.prog 189 [.ptr 4 0,.ptr 1 0,.ptr 2 0,.ptr 3 0] (some (errV e)) [rdr b m,.cells T2 [.ptr 0 0],.cells T4 [.raw (.slice none 0 0)],.cells T5 [.raw y],.cells T6 [rI n]] K:=by
 refine recE mixed fi189 ?_;exact h _
def j5c(H:List SObj)(K:List SObj->Prop)(h:∀G,K (H++G)):DCall Tryz.prog 189 [.ptr 4 0,.ptr 1 0,.ptr 2 0,.ptr 3 0] none H K:=by refine recE mixed fi189 ?_;simpa using h []
abbrev zDat:SV:=.isl PreT []
theorem j4t(b:List UInt8)(n:Nat)(hn:n<=b.length)(hb:b.length<=1099511627776):
 EffR Tryz.prog 151 [.ptr 0 0,.fn 152 [] []] b n (fun l:List Pre=>.isl PreT l) zDat (dataP (b.drop n)):=by
 have hk:=j3B b n hn hb;generalize dataP (b.drop n)=X at*;cases X with
 |error e=>have hk':=z1I hk rfl;refine q0b (by simp) ?_;refine defE mixed fi151 ?_;refine gQ ?_;refine effP [0] (hk') ?_;refine ⟨by simp,j2N b n _ e _ _ _ _ _ _ fun G=> ?_⟩;with_reducible refine sxE ?_;trivial
 |ok x=>obtain ⟨v,k⟩:=x;have hk':=z2Q hk rfl;refine q0b (by simp) ?_;refine defE mixed fi151 ?_;refine gQ ?_;refine eQ [0] (hk') ?_;refine j5c _ _ fun G=> ?_;with_reducible refine sxE ?_;trivial
theorem j0F(b:List UInt8)(n:Nat)(hn:n<=b.length)(hb:b.length<=1099511627776):
 EffR Tryz.prog 79 [.ptr 0 0] b n (fun l:List Pre=>.isl PreT l) zDat (dataP (b.drop n)):=by
 have hk:=j4t b n hn hb;generalize dataP (b.drop n)=X at*;cases X with
 |error e=>have hk':=q3I hk rfl;refine q0b (by simp) ?_;refine rQ fi79 ?_;refine eQ [0] (hk') ?_;trivial
 |ok x=>obtain ⟨v,k⟩:=x;have hk':=q3K hk rfl;refine q0b (by simp) ?_;refine rQ fi79 ?_;refine eQ [0] (hk') ?_;trivial
@[go_sem] abbrev mU(o:Int):SV:=.raw (.int .u32 o)
def EffY(P:Program)(f:FuncId)(args:List SV)(b:List UInt8)(n:Nat)(res:α->SV):Except Nat (α×Nat)->Prop
 |.ok (v,k)=>PE P f args [rdr b n] (.ret (res v)) [rdr b (n+k)]
 |.error _=>∃e:Nat,PE P f args [rdr b n] (.pan (errV e)) [.dead]
variable {f:FuncId}
def q7Q(h:EffY P f args b n res x)(hx:x= .ok (v,k)):PE P f args [rdr b n] (.ret (res v)) [rdr b (n+k)]:=by rw [hx] at h;exact h
def q7F(h:EffY P f args b n res x)(hx:x= .error e):∃e:Nat,PE P f args [rdr b n] (.pan (errV e)) [.dead]:=by rw [hx] at h;exact h
set_option synthInstance.maxSize 2000
set_option synthInstance.maxHeartbeats 400000
def q8S(l l':List UInt8):PC Tryz.prog 101 [.isl .u8 l,.isl .u8 l'] (rB (decide (l=l'))):=by refine q0q rfl rfl ?_;refine rQ fi101 ?_;simp only [q4V]
theorem z0g(l l':List ByteArray)(hl:(Ty.slice Ty.str).ok l):PC Tryz.prog 170 [.isl .str l,.isl .str l'] (rB (decide (l=l'))):=by
 have hlen:=hl.1;have key:=sameN l l' (ByteArray.empty);refine q0q rfl rfl ?_;refine rQ fi170 ?_<;>try with_reducible exact True.intro
 repeat' (first
  | (with_reducible refine And.intro ?_ ?_)
  | (with_reducible intro _))
 all_goals (skip)
 . grind
 refine q1u (fun i=>[(13,.raw (.int .i64 ((i:Nat):Int)))]) (l.length) (fun j=>(eqAt l l' ByteArray.empty) j=true) (by first|decide|simp) (fun i=>rfl) ?_ fun i hi hall=> ?_
 . (with_reducible refine sxE ?_<;>try exact True.intro)
   all_goals (try rfl)
 have hwr:=wsx i (by omega);refine gQ ?_;have bad:i< (l.length)->(eqAt l l' ByteArray.empty) i=false->allN (l.length) (eqAt l l' ByteArray.empty)=false:=fun hlt hv=>q0v hlt hv;have fin:¬i< (l.length)->allN (l.length) (eqAt l l' ByteArray.empty)=true:=fun h=>q0C fun j hj=>hall j (by omega);try dsimp only at bad fin hall
 repeat' (first
  | (refine q0a (skip) ?_;refine uQ 600 _ ?_;simp (maxSteps:=3000000) only [go_sem,↓zA,↓reduceIte,↓reduceDIte] <;>try simp only [zB])
  | (refine q0c (skip) ?_;refine uQ 600 _ ?_;simp (maxSteps:=3000000) only [go_sem,↓zA,↓reduceIte,↓reduceDIte] <;>try simp only [zB])
  | (refine q0e (skip) ?_;refine uQ 600 _ ?_;simp (maxSteps:=3000000) only [go_sem,↓zA,↓reduceIte,↓reduceDIte] <;>try simp only [zB])
  | (with_reducible refine And.intro ?_ ?_)
  | (with_reducible intro _))
 all_goals (first| (with_reducible (refine (id ?_:SoundI _ _ _))) | ((try simp only [Ty.dflt] at*);first|omega| (refine ⟨by omega,q1i hall (by grind [eqAt]),⟨_,by first|rfl|exact List.append_assoc _ _ _| (simp only [List.append_assoc,AH,Ax];rfl)⟩,?_⟩;simp only [hwr,go_sem,↓zA,↓reduceIte,↓reduceDIte] <;> (first|rfl| (grind [eqAt]))) | (refine ⟨_,rfl⟩) | (refine ⟨_,List.append_assoc _ _ _⟩) | (grind [eqAt])))
def z9o(p p':Prin)(hp:PrinT.ok p):PC Tryz.prog 94 [.agg (PrinT.cells p),.agg (PrinT.cells p')] (rB (decide (p=p'))):=by
 obtain ⟨a,r⟩:=p;obtain ⟨a',r'⟩:=p';have hd:decide ((a,r)=(a',r'))=(decide (r=r') && decide (a=a')):=by rw [B5];simp only [decide_eq_true_eq,Am,Prod.mk.injEq];exact ⟨fun h=>⟨h.2,h.1⟩,fun h=>⟨h.2,h.1⟩⟩
 rw [show rB (decide ((a,r)=(a',r')))=rB (decide (r=r') && decide (a=a')) from by rw [hd]];clear hd;refine q0q rfl rfl ?_;refine rQ fi94 ?_<;>try with_reducible exact True.intro
 repeat' (first
  | (refine q0a (z0g _ _ hp.1) ?_;refine uQ 600 _ ?_;simp (maxSteps:=3000000) only [go_sem,↓zA,↓reduceIte,↓reduceDIte] <;>try simp only [zB])
  | (refine q0c (z0g _ _ hp.1) ?_;refine uQ 600 _ ?_;simp (maxSteps:=3000000) only [go_sem,↓zA,↓reduceIte,↓reduceDIte] <;>try simp only [zB])
  | (refine q0e (z0g _ _ hp.1) ?_;refine uQ 600 _ ?_;simp (maxSteps:=3000000) only [go_sem,↓zA,↓reduceIte,↓reduceDIte] <;>try simp only [zB])
  | (with_reducible refine And.intro ?_ ?_)
  | (with_reducible intro _))
 all_goals (skip)
 all_goals grind
def j0Y(k k':Key):PC Tryz.prog 102 [.agg (KeyT.cells k),.agg (KeyT.cells k')] (rB (decide (k=k'))):=by
 obtain ⟨a,b,c⟩:=k;obtain ⟨a',b',c'⟩:=k';have hd:decide ((a,b,c)=(a',b',c'))=(decide (a=a') && (decide (b=b') && decide (c=c'))):=by rw [B5];simp only [decide_eq_true_eq,Am,Prod.mk.injEq]
 rw [show rB (decide ((a,b,c)=(a',b',c')))=rB (decide (a=a') && (decide (b=b') && decide (c=c'))) from by rw [hd]];clear hd;refine q0q rfl rfl ?_;refine rQ fi102 ?_<;>try with_reducible exact True.intro
 repeat' (first
  | (refine q0a (q8S _ _) ?_;refine uQ 600 _ ?_;simp (maxSteps:=3000000) only [go_sem,↓zA,↓reduceIte,↓reduceDIte] <;>try simp only [zB])
  | (refine q0c (q8S _ _) ?_;refine uQ 600 _ ?_;simp (maxSteps:=3000000) only [go_sem,↓zA,↓reduceIte,↓reduceDIte] <;>try simp only [zB])
  | (refine q0e (q8S _ _) ?_;refine uQ 600 _ ?_;simp (maxSteps:=3000000) only [go_sem,↓zA,↓reduceIte,↓reduceDIte] <;>try simp only [zB])
  | (with_reducible refine And.intro ?_ ?_)
  | (with_reducible intro _))
 all_goals (skip)
 all_goals grind
theorem q7p(v lo hi:Int):PC Tryz.prog 174 [rI v,rI lo,rI hi] (rB (mIn lo hi v)):=by refine q0q rfl rfl ?_;refine rQ fi174 ?_;grind [mIn]
theorem z0q(v:Int):PC Tryz.prog 172 [rI v] (rB (vTime v)):=by refine q0q rfl rfl ?_;refine rQ fi172 ?_;refine cQ (q7p _ _ _) ?_;rfl
def j6U(l:List Bool)(hl:l.length<=1125899906842624):PC Tryz.prog 171 [.isl .bool l] (rB (l.all id)):=by refine q0q rfl rfl ?_;refine rQ fi171 ?_;refine cQ (q6Y l hl) ?_;simp
def j2z(v:Int):PC Tryz.prog 173 [rI v] (rB (mIn 0 86400 v)):=by refine q0q rfl rfl ?_;refine rQ fi173 ?_;refine cQ (q7p _ _ _) ?_;trivial
def witB(a b s:Int):Bool:=vTime a&& (vTime b&& (mIn 0 86400 s&& mIn (-s) s (a-b)))
theorem j5D(a b s:Int):PC Tryz.prog 95 [rI a,rI b,rI s] (rB (witB a b s)):=by
 have hm:=j6U [vTime a,vTime b,mIn 0 86400 s] (by simp);have hw:witB a b s=(([vTime a,vTime b,mIn 0 86400 s].all id) && mIn (-s) s (a-b)):=by simp [witB,Bool.and_assoc]
 have hr:[vTime a,vTime b,mIn 0 86400 s].all id=true->IntKind.i64.wrap (a-b)=a-b∧IntKind.i64.wrap (-s)= -s:=fun h=>by simp only [BC,Cy,id,Cp,Am,vTime,mIn,decide_eq_true_eq] at h;exact ⟨wrapi (by omega),wrapi (by omega)⟩
 rw [hw];refine q0q rfl rfl ?_;refine rQ fi95 ?_;refine cQ (z0q _) ?_;refine cQ (z0q _) ?_;refine cQ (j2z _) ?_;refine q0z 0 ?_;with_reducible refine sxE ?_
 refine q0a hm ?_;generalize [vTime a,vTime b,mIn 0 86400 s].all id=q at*;cases q with
 |false=>refine gQ ?_;trivial
 |true=>obtain ⟨h1,h2⟩:=hr rfl;rw [show -s=0-s by omega] at h2⊢;refine gy2 h1 h2 ?_;refine cQ (q7p _ _ _) ?_;trivial
end Go.Proofs.YthbcodbcndiapaaGreatDoor