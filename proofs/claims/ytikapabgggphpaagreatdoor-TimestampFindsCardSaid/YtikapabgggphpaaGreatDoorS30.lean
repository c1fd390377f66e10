/- The plain law: the program and the reference tell the same of entries. -/
import Derived.Test.YtikapabgggphpaaGreatDoorSRv
set_option linter.all false
namespace Go.Proofs.YtikapabgggphpaaGreatDoor
open Go Go.Sx Go.Proofs
set_option maxRecDepth 100000
set_option maxHeartbeats 1000000
set_option maxHeartbeats 4000000
theorem z8r(n:Nat):(lenS n).length≤4:=by
 unfold lenS;split
 · simp
 split
 · simp
 split<;>simp
theorem q2o(t:UInt8)(l:List (List UInt8)):(elemS t l).length≤l.flatten.length+5:=by
 unfold elemS;split
 · have:=z8r l.flatten.length;simp only [tlv,AM,Ad];omega
 simp
theorem q3n(t n:Int)(b:List UInt8):(wrapS t n b).length≤b.length+5:=by
 unfold wrapS;split
 · have:=q2o (byteOf (t+n)) [b];simp only [AR,BA,Ah] at this;exact this
 simp
theorem z8l(v:Int):intSz v≤9:=by
 unfold intSz;cases h:firstN 9 (oneB v) with
 |none=>simp
 |some k=>have:=(z1u h).1;simp;omega
theorem q5S(v:Int):(intS v).length≤14:=by
 unfold intS;split
 · have h1:=q2o 2 [numS v (intSz v)];have h2:=z8l v;simp only [AR,BA,Ah,numS,A1,Be] at h1 h2⊢;omega
 simp
def sgn1(x:UInt8):Int:=IntKind.i8.wrap (x.toNat:Int)
def sgn(c:List UInt8):Int:=(c.drop 1).foldl (fun v x=>v*256+ (x.toNat:Int)) (sgn1 (c.getD 0 0))
def decInt(c:List UInt8):Option Int:=if 1≤c.length∧c.length≤8∧intS (sgn c)=elemS 2 [c] then some (sgn c) else none
def decTime(c:List UInt8):Option Nat:=if c.length=6∧beN c≤1099511627776 then some (beN c) else none
def decOct(c:List UInt8):Option (List UInt8):=some c
def intP:PR Int:=rdP 2 decInt
def octP:PR (List UInt8):=rdP 4 decOct
def timeP:PR Nat:=rdP 24 decTime
theorem z0h{α:Type}{tag:UInt8}{dec:List UInt8→Option α}{r:List UInt8}{v:α}{k:Nat}(h:rdP tag dec r= .ok (v,k)):takeE tag r=0∧dec (takeC r)=some v∧k=takeN r:=by
 unfold rdP at h;split at h
 · split at h
   · cases h;exact ⟨by assumption,by assumption,rfl⟩
   cases h
 cases h
theorem z2V{α:Type}{tag:UInt8}{dec:List UInt8→Option α}{r:List UInt8}{e:Nat}(h:rdP tag dec r= .error e):(takeE tag r=0∧dec (takeC r)=none∧e=6)∨(takeE tag r≠0∧e=takeE tag r):=by
 unfold rdP at h;split at h
 · split at h
   · cases h
   cases h;exact .inl ⟨by assumption,by assumption,rfl⟩
 cases h;exact .inr ⟨by assumption,rfl⟩
theorem j3U{α:Type}{tag:UInt8}{dec:List UInt8→Option α}{r:List UInt8}{v:α}{k:Nat}(h:rdP tag dec r= .ok (v,k)):k≤r.length:=by
 obtain ⟨h1,_,rfl⟩:=z0h h;exact q4z h1
theorem z5N(v:Int)(c:Nat)(hv: -36028797018963968≤v∧v<36028797018963968)(hc:c<256):IntKind.i64.wrap ((BitVec.ofInt 64 (v*256) |||BitVec.ofInt 64 ((c:Nat):Int)).toNat:Int)=v*256+c:=by
 obtain ⟨m,hm⟩:∃m:Nat,(BitVec.ofInt 64 (v*256)).toNat=m*256∧((m:Int)*256=v*256∨(m:Int)*256=v*256+18446744073709551616):=by
  refine ⟨((v*256)%18446744073709551616).toNat / 256,?_,?_⟩
  · rw [BitVec.toNat_ofInt];have:(((2^ 64:Nat)):Int)=18446744073709551616:=by decide
    rw [this];omega
  omega
 have h2:(BitVec.ofInt 64 ((c:Nat):Int)).toNat=c:=by rw [AO,AX];exact AY (by omega)
 have h3:m*256|||c=m*256+c:=by
  have:=Cm (b:=c) (i:=8) hc m;rw [CI] at this;exact this.symm
 rw [Ca,hm.1,h2,h3];have hw:∀x:Int,IntKind.i64.wrap x=if x%18446744073709551616<9223372036854775808 then x%18446744073709551616 else x%18446744073709551616-18446744073709551616:=fun x=>by
  simp [IntKind.wrap,IntKind.bits,IntKind.signed];split<;>omega
 rw [hw]
 push_cast
 rcases hm.2 with h|h<;>split<;>omega
def sgnK(c:List UInt8)(i:Nat):Int:=((c.drop 1).take i).foldl (fun v x=>v*256+ (x.toNat:Int)) (sgn1 (c.getD 0 0))
theorem z4Q(x:UInt8): -128≤sgn1 x∧sgn1 x<128:=by
 have:=x.toNat_lt;unfold sgn1;simp [IntKind.wrap,IntKind.bits,IntKind.signed];omega
theorem q4E{c:List UInt8}{i:Nat}(h:i< (c.drop 1).length):sgnK c (i+1)=sgnK c i*256+ (((c.drop 1).getD i 0).toNat:Int):=by
 unfold sgnK;rw [q2v (d:=0) h,List.foldl_append];rfl
theorem q9u(c:List UInt8):∀i,i≤(c.drop 1).length→ -(128*256^ i:Nat)≤sgnK c i∧sgnK c i< (128*256^ i:Nat)
 |0,_=>by have:=z4Q (c.getD 0 0);simpa [sgnK] using this
 |i+1,h=>by
  have ih:=q9u c i (by omega)
  have hx:=((c.drop 1).getD i 0).toNat_lt;rw [q4E (by omega),Nat.pow_succ]
  omega
theorem j1f(a b:List UInt8)(ha:a.length≤140737488355328)(hb:b.length≤140737488355328):PC Tryz.prog 107 [.isl .u8 a,.isl .u8 b] (rB (decide (a=b))):=by
 refine q0p rfl rfl ?_;refine rQ fi107 ?_;exact decide_eq_decide.2 ⟨fun h=>by simpa [strOf] using h,fun h=>by rw [h]⟩
def iVal(c:List UInt8):Int:=if c.length<1∨8<c.length then 0 else sgn c
theorem z3L{c:List UInt8}{v:Int}(h:decInt c=some v):v=iVal c:=by
 unfold decInt at h;split at h
 · rename_i hc;cases h;unfold iVal;rw [if_neg (by omega)]
 cases h
theorem z2o(c:List UInt8):sgnK c (c.drop 1).length=sgn c:=by unfold sgnK sgn;rw [AE]
theorem z9Z(c:List UInt8)(hc:c.length≤1099511627776):PC Tryz.prog 106 [.isl .u8 c] (.tup [rI (iVal c),rB (decInt c).isSome]):=by
 refine q0i rfl rfl ?_;refine rQ fi106 ?_;have h0:(c.length<1∨8<c.length)→iVal c=0∧(decInt c).isSome=false:=fun h=>by
  unfold iVal decInt;rw [if_pos h,if_neg (by omega)]
  exact ⟨rfl,rfl⟩
 refine ⟨fun h1=>⟨fun h8=> ?_,fun h8=>⟨by omega,⟨by omega,Ag _⟩,?_⟩⟩,fun h1=> ?_⟩
 · obtain ⟨e1,e2⟩:=h0 (by omega)
   rw [e1,e2];exact ⟨rfl,rfl⟩
 rotate_left
 · obtain ⟨e1,e2⟩:=h0 (by omega)
   rw [e1,e2];exact ⟨rfl,rfl⟩
 have hs1:IntKind.i64.wrap (IntKind.i8.wrap ((c.getD 0 Ty.u8.dflt).toNat:Int))=sgnK c 0:=by
  have:=z4Q (c.getD 0 0);show IntKind.i64.wrap (sgn1 (c.getD 0 0))=_;rw [wrapi (by omega)];rfl
 rw [hs1];have htl:List.take c.length c=c:=AE;rw [htl];have hl:(c.drop 1).length=c.length-1:=Al;generalize hD:c.drop 1=d at*;refine q4m (fun i=>[(4,rI (sgnK c i)),(23,.raw (.int .i64 ((i:Nat):Int)))]) (d.length) (fun j=>(fun _=>true) j=true) (by first|decide|simp) (fun i=>rfl) ?_ fun i hi hall=> ?_
 · (with_reducible refine sxE ?_<;>try exact True.intro)
   all_goals (try rfl)
 have hwr:=wsx i (by omega)
 refine gQ ?_;have bad:i< (d.length)→(fun _=>true) i=false→allN (d.length) (fun _=>true)=false:=fun hlt hv=>q1Q hlt hv;have fin:¬i< (d.length)→allN (d.length) (fun _=>true)=true:=fun h=>q2p fun j hj=>hall j (by omega)
 try dsimp only at bad fin hall
 refine ⟨fun hlt=>⟨⟨by omega,hlt⟩,?_⟩,fun hge=> ?_⟩
 · have hb:=q9u c i (by rw [hD];omega)
   have hp:256^ i≤256^ 6:=AZ (by decide) (by omega)
   have hx:(d.getD i Ty.u8.dflt).toNat<256:=Bj _;have e0:sgnK c i*2^ min 8 64=sgnK c i*256:=rfl;have e1:IntKind.i64.wrap (sgnK c i*256)=sgnK c i*256:=wrapi (by omega)
   have e2:IntKind.i64.wrap ((d.getD i Ty.u8.dflt).toNat:Int)=((d.getD i Ty.u8.dflt).toNat:Int):=wrapi (by omega)
   have e3:=z5N (sgnK c i) (d.getD i Ty.u8.dflt).toNat (by omega) hx
   have e4:=q4E (c:=c) (i:=i) (by rw [hD];exact hlt)
   rw [hD] at e4;rw [e0,e1,e2];refine ⟨hlt,trivial,⟨[],rfl⟩,?_⟩;with_reducible refine sx1 hwr ?_
   rw [e4];exact congrArg (Value.int .i64) e3
 obtain rfl:i=d.length:=by omega
 have hall':=z2o c;rw [hD] at hall';rw [hall'];refine cQ (q3i (sgn c)) ?_;refine q0q 0 ?_;with_reducible refine sxE ?_
 refine q0a (q2K 2 2 rfl [c] (by simp)) ?_
 have g1:=q5S (sgn c);have g2:=q2o 2 [c];simp only [AR,BA,Ah] at g2;refine gQ ?_;refine cQ (j1f _ _ (by omega) (by omega)) ?_
 have e1:iVal c=sgn c:=by unfold iVal;rw [if_neg (by omega)]
 have e2:(decInt c).isSome=decide (intS (sgn c)=elemS 2 [c]):=by
  unfold decInt;by_cases h:intS (sgn c)=elemS 2 [c]
  · rw [if_pos ⟨by omega,by omega,h⟩,decide_eq_true h];rfl
  rw [if_neg (fun q=>h q.2.2),decide_eq_false h];rfl
 rw [e1,e2];exact ⟨rfl,rfl⟩
def tVal(c:List UInt8):Nat:=if c.length≠6 then 0 else beN c
theorem z7h(c:List UInt8):PC Tryz.prog 104 [.isl .u8 c] (.tup [rI (tVal c),rB (decTime c).isSome]):=by
 refine q0i rfl rfl ?_;refine rQ fi104 ?_;refine ⟨fun h6=> ?_,fun h6=>q0a (z3K c (by omega)) ?_⟩
 · have e1:tVal c=0:=by unfold tVal;rw [if_pos (by omega)]
   have e2:(decTime c).isSome=false:=by unfold decTime;rw [if_neg (by omega)];rfl
   rw [e1,e2];exact ⟨rfl,rfl⟩
 have e1:tVal c=beN c:=by unfold tVal;rw [if_neg (by omega)]
 have e2:(decTime c).isSome=decide (((beN c:Nat):Int)≤1099511627776):=by
  unfold decTime;by_cases h:beN c≤1099511627776
  · rw [if_pos ⟨by omega,h⟩,decide_eq_true (by omega)];rfl
  rw [if_neg (by omega),decide_eq_false (by omega)];rfl
 rw [e1,e2];refine gQ ?_;trivial
theorem j0B(c:List UInt8)(hc:c.length≤1099511627776):PC Tryz.prog 132 [.isl .u8 c] (.tup [.isl .u8 c,rB true]):=by
 refine q0i rfl rfl ?_;refine rQ fi132 ?_;refine cQ (q1X c (by omega)) ?_;trivial
theorem z1r{c:List UInt8}{v:Nat}(h:decTime c=some v):v=tVal c:=by
 unfold decTime at h;split at h
 · rename_i hc;cases h;unfold tVal;rw [if_neg (by omega)]
 cases h
theorem q2s{b:List UInt8}{n:Nat}(hb:b.length≤1099511627776):(takeC (b.drop n)).length≤1099511627776:=by
 have:=q2O (b.drop n);rw [Al] at this;omega
theorem z6E(b:List UInt8)(n:Nat)(hn:n≤b.length)(hb:b.length≤1099511627776){v:Int}{k:Nat}(h:intP (b.drop n)= .ok (v,k)):PE Tryz.prog 72 [.ptr 0 0] [rdr b n] (.ret (.tup [(rI) v,rI 0])) [rdr b (n+k)]:=by
 obtain ⟨h1,h2,rfl⟩:=z0h h;have hr:=q6c 106 2 b n hn hb _ _ (z9Z (takeC (b.drop n)) (q2s hb)) ⟨_,.inl rfl⟩;rw [if_pos h1,if_pos (by rw [h2];rfl),if_pos ⟨h1,by rw [h2];rfl⟩,←z3L h2] at hr
 refine q0g (Ag _) ?_;refine rQ fi72 ?_;refine eQ [0] (hr) ?_;trivial
theorem z5W(b:List UInt8)(n:Nat)(hn:n≤b.length)(hb:b.length≤1099511627776){e:Nat}(h:intP (b.drop n)= .error e):PE Tryz.prog 72 [.ptr 0 0] [rdr b n] (.ret (.tup [rI 0,rI e])) [rdr b n]:=by
 have hr:=q6c 106 2 b n hn hb _ _ (z9Z (takeC (b.drop n)) (q2s hb)) ⟨_,.inl rfl⟩;have hr':PE Tryz.prog 103 [.ptr 0 0,.raw (.int .u8 (2:UInt8).toNat),.fn 106 [] []] [rdr b n] (.ret (.tup [rI 0,rI e])) [rdr b n]:=by
  rcases z2V h with ⟨h1,h2,rfl⟩ | ⟨h1,rfl⟩
  · rw [if_pos h1,if_neg (by rw [h2];simp),if_neg (fun q=>by rw [h2] at q;simp at q)] at hr
    exact hr
  rw [if_neg h1,if_neg (fun q=>h1 q.1)] at hr;exact hr
 refine q0g (Ag _) ?_;refine rQ fi72 ?_;refine eQ [0] (hr') ?_;trivial
theorem z9T(b:List UInt8)(n:Nat)(hn:n≤b.length)(hb:b.length≤1099511627776){v:Nat}{k:Nat}(h:timeP (b.drop n)= .ok (v,k)):PE Tryz.prog 71 [.ptr 0 0] [rdr b n] (.ret (.tup [(fun v=>rI (v:Nat)) v,rI 0])) [rdr b (n+k)]:=by
 obtain ⟨h1,h2,rfl⟩:=z0h h;have hr:=q6c 104 24 b n hn hb _ _ (z7h (takeC (b.drop n))) ⟨_,.inl rfl⟩;rw [if_pos h1,if_pos (by rw [h2];rfl),if_pos ⟨h1,by rw [h2];rfl⟩,←z1r h2] at hr
 refine q0g (Ag _) ?_;refine rQ fi71 ?_;refine eQ [0] (hr) ?_;trivial
theorem z8n(b:List UInt8)(n:Nat)(hn:n≤b.length)(hb:b.length≤1099511627776){e:Nat}(h:timeP (b.drop n)= .error e):PE Tryz.prog 71 [.ptr 0 0] [rdr b n] (.ret (.tup [rI 0,rI e])) [rdr b n]:=by
 have hr:=q6c 104 24 b n hn hb _ _ (z7h (takeC (b.drop n))) ⟨_,.inl rfl⟩;have hr':PE Tryz.prog 103 [.ptr 0 0,.raw (.int .u8 (24:UInt8).toNat),.fn 104 [] []] [rdr b n] (.ret (.tup [rI 0,rI e])) [rdr b n]:=by
  rcases z2V h with ⟨h1,h2,rfl⟩ | ⟨h1,rfl⟩
  · rw [if_pos h1,if_neg (by rw [h2];simp),if_neg (fun q=>by rw [h2] at q;simp at q)] at hr
    exact hr
  rw [if_neg h1,if_neg (fun q=>h1 q.1)] at hr;exact hr
 refine q0g (Ag _) ?_;refine rQ fi71 ?_;refine eQ [0] (hr') ?_;trivial
theorem j3m(b:List UInt8)(n:Nat)(hn:n≤b.length)(hb:b.length≤1099511627776){v:List UInt8}{k:Nat}(h:octP (b.drop n)= .ok (v,k)):PE Tryz.prog 96 [.ptr 0 0] [rdr b n] (.ret (.tup [.isl .u8 v,rI 0])) [rdr b (n+k)]:=by
 obtain ⟨h1,h2,rfl⟩:=z0h h;have hr:=q8a 132 4 b n hn hb _ _ (j0B (takeC (b.drop n)) (q2s hb)) ⟨.bool true,.inr ⟨_,rfl⟩⟩;rw [if_pos h1,if_pos rfl,if_pos ⟨h1,rfl⟩] at hr;cases h2;refine q0g (Ag _) ?_;refine rQ fi96 ?_;refine eQ [0] (hr) ?_;trivial
theorem j2k(b:List UInt8)(n:Nat)(hn:n≤b.length)(hb:b.length≤1099511627776){e:Nat}(h:octP (b.drop n)= .error e):PE Tryz.prog 96 [.ptr 0 0] [rdr b n] (.ret (.tup [.isl .u8 [],rI e])) [rdr b n]:=by
 have hr:=q8a 132 4 b n hn hb _ _ (j0B (takeC (b.drop n)) (q2s hb)) ⟨.bool true,.inr ⟨_,rfl⟩⟩;have hr':PE Tryz.prog 131 [.ptr 0 0,.raw (.int .u8 (4:UInt8).toNat),.fn 132 [] []] [rdr b n] (.ret (.tup [.isl .u8 [],rI e])) [rdr b n]:=by
  rcases z2V h with ⟨h1,h2,rfl⟩ | ⟨h1,rfl⟩
  · cases h2
  rw [if_neg h1,if_neg (fun q=>h1 q.1)] at hr;exact hr
 refine q0g (Ag _) ?_;refine rQ fi96 ?_;refine eQ [0] (hr') ?_;trivial
theorem z3o(tag:UInt8)(b:List UInt8)(n:Nat)(hn:n≤b.length)(hb:b.length≤1099511627776)(h:takeE tag (b.drop n)=0):
 PE Tryz.prog 100 [.ptr 0 0,.raw (.int .u8 tag.toNat),.fn 101 [] []] [rdr b n] (.ret (.tup [.ptr 1 0,rI 0])) [rdr b (n+takeN (b.drop n)),rdr (takeC (b.drop n)) 0]:=by
 have ht:=z2q tag b n hn hb;rw [if_pos h,if_pos h,h] at ht;generalize takeC (b.drop n)=c at*;generalize takeN (b.drop n)=k at*;refine q0g (by simp) ?_
 refine rQ fi100 ?_;refine eQ [0] (ht) ?_;refine eQ [] (z1y c) ?_;trivial
theorem z3c(tag:UInt8)(b:List UInt8)(n:Nat)(hn:n≤b.length)(hb:b.length≤1099511627776)(h:takeE tag (b.drop n)≠0):
 PE Tryz.prog 100 [.ptr 0 0,.raw (.int .u8 tag.toNat),.fn 101 [] []] [rdr b n] (.ret (.tup [.raw (.pointer none),rI (takeE tag (b.drop n))])) [rdr b n]:=by
 have ht:=z2q tag b n hn hb;rw [if_neg h,if_neg h] at ht;generalize takeE tag (b.drop n)=e at*;refine q0g (by simp) ?_
 refine rQ fi100 ?_;refine eQ [0] (ht) ?_;exact ⟨fun _=>trivial,fun h0=>absurd (by omega) h⟩
theorem z5P(b:List UInt8)(n:Nat)(hn:n≤b.length)(hb:b.length≤1099511627776)(h:takeE 48 (b.drop n)=0):
 PE Tryz.prog 69 [.ptr 0 0] [rdr b n] (.ret (.tup [.ptr 1 0,rI 0])) [rdr b (n+takeN (b.drop n)),rdr (takeC (b.drop n)) 0]:=by
 have hr:=z3o 48 b n hn hb h;refine q0g (by simp) ?_
 refine rQ fi69 ?_;refine eQ [0] (hr) ?_;trivial
theorem z4H(b:List UInt8)(n:Nat)(hn:n≤b.length)(hb:b.length≤1099511627776)(h:takeE 48 (b.drop n)≠0):
 PE Tryz.prog 69 [.ptr 0 0] [rdr b n] (.ret (.tup [.raw (.pointer none),rI (takeE 48 (b.drop n))])) [rdr b n]:=by
 have hr:=z3c 48 b n hn hb h;refine q0g (by simp) ?_
 refine rQ fi69 ?_;refine eQ [0] (hr) ?_;trivial
theorem z7w{m:Nat}(hm:m≤30):IntKind.u8.wrap (IntKind.i64.wrap (160+ (m:Int)))=((tagB m).toNat:Int):=by
 rw [wrapi (by omega)]
 exact (q1s _).symm
theorem q6k{m:Nat}{r:List UInt8}:nextB m r=true ↔ ¬((r.length:Int)=0)∧((r.getD 0 Ty.u8.dflt).toNat:Int)=((tagB m).toNat:Int):=by
 unfold nextB;simp only [Am,decide_eq_true_eq,ne_eq];constructor
 · rintro ⟨h1,h2⟩;exact ⟨by omega,by rw [show r.getD 0 Ty.u8.dflt=tagB m from h2]⟩
 rintro ⟨h1,h2⟩;exact ⟨by omega,BF.1 (by exact_mod_cast h2)⟩
theorem z9K{m:Nat}{r:List UInt8}(h:nextB m r=false)(h1:¬((r.length:Int)=0)):¬((r.getD 0 Ty.u8.dflt).toNat:Int)=((tagB m).toNat:Int):=fun h2=>by
 rw [q6k.2 ⟨h1,h2⟩] at h;cases h
theorem z1s(m:Nat)(hm:m≤30)(b:List UInt8)(n:Nat)(hn:n≤b.length)(h:nextB m (b.drop n)=false):
 PE Tryz.prog 102 [.ptr 0 0,rI m] [rdr b n] (.ret (.tup [.raw (.pointer none),rB false,rI 0])) [rdr b n]:=by
 have hr:=z0N b n hn;have hu:=z7w hm;have hx:=z9K h;generalize b.drop n=r at*;refine q0g (by simp) ?_
 refine rQ fi102 ?_;refine ⟨fun _=>⟨fun h30=>absurd h30 (by omega),fun _=> ?_⟩,fun hneg=>by exfalso;omega⟩
 refine q0j [0] (hr) rfl (by decide) (by repeat first|exact trivial|exact rfl|refine And.intro ?_ ?_) rfl rfl ?_
 simp only [afterO,Out.ren,SV.ren,mgA,sig,SObj.ren,SV.renL,List.set,List.map,Ah,hu];refine gy1 hu ?_;exact ⟨fun h0=>⟨by omega,fun _=>trivial,fun h1=>absurd h1 (hx h0)⟩,fun _=>trivial⟩
theorem z0R(m:Nat)(hm:m≤30)(b:List UInt8)(n:Nat)(hn:n≤b.length)(hb:b.length≤1099511627776)(h:nextB m (b.drop n)=true)(ht:takeE (tagB m) (b.drop n)=0):
 PE Tryz.prog 102 [.ptr 0 0,rI m] [rdr b n] (.ret (.tup [.ptr 1 0,rB true,rI 0])) [rdr b (n+takeN (b.drop n)),rdr (takeC (b.drop n)) 0]:=by
 have hr:=z0N b n hn;have hd:=z3o (tagB m) b n hn hb ht;have hu:=z7w hm;obtain ⟨hx1,hx2⟩:=q6k.1 h;generalize takeC (b.drop n)=c at*;generalize takeN (b.drop n)=k at*;generalize b.drop n=r at*;refine q0g (by simp) ?_
 refine rQ fi102 ?_;refine ⟨fun _=>⟨fun h30=>absurd h30 (by omega),fun _=> ?_⟩,fun hneg=>by exfalso;omega⟩
 refine q0j [0] (hr) rfl (by decide) (by repeat first|exact trivial|exact rfl|refine And.intro ?_ ?_) rfl rfl ?_
 simp only [afterO,Out.ren,SV.ren,mgA,sig,SObj.ren,SV.renL,List.set,List.map,Ah,hu];refine gy1 hu ?_;refine ⟨fun h0=>⟨by omega,fun h1=>absurd hx2 h1,fun _=> ?_⟩,fun h0=>absurd h0 hx1⟩
 refine eQ [0] (hd) ?_;trivial
theorem z1I(m:Nat)(hm:m≤30)(b:List UInt8)(n:Nat)(hn:n≤b.length)(hb:b.length≤1099511627776)(h:nextB m (b.drop n)=true)(ht:takeE (tagB m) (b.drop n)≠0):
 PE Tryz.prog 102 [.ptr 0 0,rI m] [rdr b n] (.ret (.tup [.raw (.pointer none),rB false,rI (takeE (tagB m) (b.drop n))])) [rdr b n]:=by
 have hr:=z0N b n hn;have hd:=z3c (tagB m) b n hn hb ht;have hu:=z7w hm;obtain ⟨hx1,hx2⟩:=q6k.1 h;generalize takeE (tagB m) (b.drop n)=e at*;generalize b.drop n=r at*;refine q0g (by simp) ?_
 refine rQ fi102 ?_;refine ⟨fun _=>⟨fun h30=>absurd h30 (by omega),fun _=> ?_⟩,fun hneg=>by exfalso;omega⟩
 refine q0j [0] (hr) rfl (by decide) (by repeat first|exact trivial|exact rfl|refine And.intro ?_ ?_) rfl rfl ?_
 simp only [afterO,Out.ren,SV.ren,mgA,sig,SObj.ren,SV.renL,List.set,List.map,Ah,hu];refine gy1 hu ?_;refine ⟨fun h0=>⟨by omega,fun h1=>absurd hx2 h1,fun _=> ?_⟩,fun h0=>absurd h0 hx1⟩
 refine eQ [0] (hd) ?_;exact fun q=>ht (by omega)
theorem q6G{α:Type}{tag:UInt8}{p:PR α}{r:List UInt8}:(takeE tag r≠0∧inP tag p r= .error (takeE tag r))∨
 (takeE tag r=0∧∃e,p (takeC r)= .error e∧inP tag p r= .error e)∨
 (takeE tag r=0∧∃v m,p (takeC r)= .ok (v,m)∧m< (takeC r).length∧inP tag p r= .error 6)∨
 (takeE tag r=0∧∃v m,p (takeC r)= .ok (v,m)∧¬m< (takeC r).length∧inP tag p r= .ok (v,takeN r)):=by
 unfold inP allP;by_cases h:takeE tag r=0
 · right;rw [if_pos h];cases hp:p (takeC r) with
   |error e=>exact .inl ⟨h,e,rfl,rfl⟩
   |ok x=>
    obtain ⟨v,m⟩:=x;by_cases hm:m< (takeC r).length
    · exact .inr (.inl ⟨h,v,m,rfl,hm,by simp [hm]⟩)
    exact .inr (.inr ⟨h,v,m,rfl,hm,by simp [hm]⟩)
 exact .inl ⟨h,by rw [if_neg h]⟩
def FitsP{α:Type}(p:PR α):Prop:=∀r v m,p r= .ok (v,m)→m≤r.length
theorem z2s{α:Type}{tag:UInt8}{p:PR α}:FitsP (inP tag p):=fun r v m h=>by
 rcases q6G (tag:=tag) (p:=p) (r:=r) with ⟨_,e⟩ | ⟨_,_,_,e⟩ | ⟨_,_,_,_,_,e⟩ | ⟨h0,_,_,_,_,e⟩ <;>rw [e] at h<;>cases h
 exact q4z h0
theorem q5Q{α:Type}{tag:UInt8}{dec:List UInt8→Option α}:FitsP (rdP tag dec):=fun _ _ _ h=>j3U h
theorem q5t{α:Type}{n:Nat}{p:PR α}:FitsP (needP n p):=fun r v m h=>by
 unfold needP at h;split at h
 · exact z2s r v m h
 cases h
theorem q6W{α:Type}{tag:UInt8}{dec:List UInt8→Option α}{r:List UInt8}{e:Nat}(h:rdP tag dec r= .error e):e≠0:=by
 rcases z2V h with ⟨_,_,rfl⟩ | ⟨h1,rfl⟩
 · decide
 exact h1
def shiftP{α:Type}(k:Nat):Except Nat (α×Nat)→Except Nat (α×Nat)
 |.ok (v,m)=>.ok (v,k+m)
 |.error e=>.error e
theorem q8O{α β:Type}{p:PR α}{f:α→PR β}{r:List UInt8}{e:Nat}(h:p r= .error e):bindP p f r= .error e:=by unfold bindP;rw [h]
theorem q8H{α β:Type}{p:PR α}{f:α→PR β}{b:List UInt8}{n:Nat}{v:α}{k:Nat}(h:p (b.drop n)= .ok (v,k)):bindP p f (b.drop n)=shiftP k (f v (b.drop (n+k))):=by
 unfold bindP;rw [h];simp only [Bi];cases f v (b.drop (n+k)) with
 |error e=>rfl
 |ok y=>rfl
theorem z6H{α:Type}{p:PR α}(hp:FitsP p){b:List UInt8}{n:Nat}(hn:n≤b.length){v:α}{k:Nat}(h:p (b.drop n)= .ok (v,k)):n+k≤b.length:=by
 have:=hp _ _ _ h;rw [Al] at this;omega
def OkP{α:Type}(p:PR α)(Q:α→Prop):Prop:=∀r v m,r.length≤1099511627776→p r= .ok (v,m)→Q v
theorem j4b{α:Type}{tag:UInt8}{dec:List UInt8→Option α}{Q:α→Prop}(h:∀c v,c.length≤1099511627776→dec c=some v→Q v):OkP (rdP tag dec) Q:=fun r v m hr hx=>by
 obtain ⟨_,h2,_⟩:=z0h hx;exact h _ v (AA (q2O r) hr) h2
theorem j0u{α:Type}{tag:UInt8}{p:PR α}{Q:α→Prop}(h:OkP p Q):OkP (inP tag p) Q:=fun r v m hr hx=>by
 rcases q6G (tag:=tag) (p:=p) (r:=r) with ⟨_,e⟩ | ⟨_,_,_,e⟩ | ⟨_,_,_,_,_,e⟩ | ⟨_,u,k,g,_,e⟩ <;>rw [e] at hx<;>cases hx
 exact h _ _ _ (AA (q2O r) hr) g
theorem z8Q{α:Type}{n:Nat}{p:PR α}{Q:α→Prop}(h:OkP p Q):OkP (needP n p) Q:=fun r v m hr hx=>by
 unfold needP at hx;split at hx
 · exact j0u h r v m hr hx
 cases hx
theorem q8m{α β:Type}{p:PR α}{f:α→PR β}{Q1:α→Prop}{Q:β→Prop}(hp:OkP p Q1)(hf:∀v,Q1 v→OkP (f v) Q):OkP (bindP p f) Q:=fun r v m hr hx=>by
 unfold bindP at hx;cases h1:p r with
 |error e=>rw [h1] at hx;cases hx
 |ok y=>
  obtain ⟨u,k⟩:=y;rw [h1] at hx;simp only at hx;cases h2:f u (r.drop k) with
  |error e=>rw [h2] at hx;cases hx
  |ok z=>
   obtain ⟨w,l⟩:=z;rw [h2] at hx;cases hx;exact hf u (hp r u k hr h1) _ _ _ (by rw [Al];omega) h2
theorem j3h{α:Type}{v:α}{Q:α→Prop}(h:Q v):OkP (retP v) Q:=fun r u m _ hx=>by cases hx;exact h
theorem z3f{α:Type}{p:PR α}:OkP p fun _=>True:=fun _ _ _ _ _=>trivial
theorem j3K(b:List UInt8)(hb:b.length≤140737488355328):PE Tryz.prog 33 [.isl .u8 b] [] (.ret (.ptr 0 0)) [rdr b 0]:=by
 refine q0g (by simp) ?_
 refine rQ fi33 ?_;refine cQ (q1X b hb) ?_;refine eQ [] (z6q b) ?_;trivial
@[go_sem] abbrev errV(e:Int):SV:=.iface 28 (rI e)
def EffX(P:Program){α:Type}(f:FuncId)(args:List SV)(b:List UInt8)(n:Nat)(res:α→SV):Except Nat (α×Nat)→Prop
 |.ok (v,k)=>PE P f args [rdr b n] (.ret (res v)) [rdr b (n+k)]
 |.error e=>PE P f args [rdr b n] (.pan (errV e)) [.dead]
theorem z1C{P:Program}{α:Type}{f:FuncId}{args:List SV}{b:List UInt8}{n:Nat}{res:α→SV}{x:Except Nat (α×Nat)}{v:α}{k:Nat}(h:EffX P f args b n res x)(hx:x= .ok (v,k)):PE P f args [rdr b n] (.ret (res v)) [rdr b (n+k)]:=by rw [hx] at h;exact h
theorem z1R{P:Program}{α:Type}{f:FuncId}{args:List SV}{b:List UInt8}{n:Nat}{res:α→SV}{x:Except Nat (α×Nat)}{e:Nat}(h:EffX P f args b n res x)(hx:x= .error e):PE P f args [rdr b n] (.pan (errV e)) [.dead]:=by rw [hx] at h;exact h
theorem q9A(v:Value):PC Tryz.prog 129 [.raw v,rI 0] (.raw v):=by
 refine q0p rfl rfl ?_;refine rQ fi129 ?_;trivial
theorem z0a(v:Value)(e:Nat)(he:e≠0):PE Tryz.prog 129 [.raw v,rI e] [] (.pan (errV e)) []:=by
 refine q0g (by simp) ?_
 refine rQ fi129 ?_;exact ⟨fun _=>trivial,fun h=>absurd (by omega) he⟩
theorem q6r(v:List UInt8):PC Tryz.prog 130 [.isl .u8 v,rI 0] (.isl .u8 v):=by
 refine q0p rfl rfl ?_;refine rQ fi130 ?_;trivial
theorem q7v(v:List UInt8)(e:Nat)(he:e≠0):PE Tryz.prog 130 [.isl .u8 v,rI e] [] (.pan (errV e)) []:=by
 refine q0g (by simp) ?_
 refine rQ fi130 ?_;exact ⟨fun _=>trivial,fun h=>absurd (by omega) he⟩
theorem z7c(b:List UInt8)(n:Nat):PE Tryz.prog 93 [.ptr 0 0,rI 0] [rdr b n] (.ret (.ptr 0 0)) [rdr b n]:=by
 refine q0g (by simp) ?_
 refine rQ fi93 ?_;trivial
theorem q9y(e:Nat)(he:e≠0):PE Tryz.prog 93 [.raw (.pointer none),rI e] [] (.pan (errV e)) []:=by
 refine q0g (by simp) ?_
 refine rQ fi93 ?_;exact ⟨fun _=>trivial,fun h=>absurd (by omega) he⟩
theorem z5R(b:List UInt8)(n:Nat)(hn:n=b.length):PE Tryz.prog 97 [.ptr 0 0] [rdr b n] (.ret (.tup [])) [rdr b n]:=by
 have he:=q6B b n (by omega)
 refine q0g (by simp) ?_
 refine rQ fi97 ?_;refine eQ [0] (he) ?_;exact ⟨fun q=>absurd q (by omega),fun _=>trivial⟩
theorem z6V(b:List UInt8)(n:Nat)(hn:n<b.length):PE Tryz.prog 97 [.ptr 0 0] [rdr b n] (.pan (errV 6)) [.dead]:=by
 have he:=q6B b n (by omega)
 refine q0g (by simp) ?_
 refine rQ fi97 ?_;refine eQ [0] (he) ?_;exact ⟨fun _=>trivial,fun q=>absurd (by omega) q⟩
theorem q8r{α:Type}{n:Nat}{p:PR α}{r:List UInt8}(h:nextB n r=false):needP n p r= .error (if r.length=0 then 4 else 6):=by unfold needP;rw [h];rfl
theorem q8h{α:Type}{n:Nat}{p:PR α}{r:List UInt8}(h:nextB n r=true):needP n p r=inP (tagB n) p r:=by unfold needP;rw [h];rfl
def closeP{α:Type}(l N:Nat):Except Nat (α×Nat)→Except Nat (α×Nat)
 |.ok (v,m)=>if m<l then .error 6 else .ok (v,N)
 |.error e=>.error e
theorem j1V{α:Type}{tag:UInt8}{p:PR α}{r:List UInt8}(h:takeE tag r=0):inP tag p r=closeP (takeC r).length (takeN r) (p (takeC r)):=by
 unfold inP allP;rw [if_pos h];cases p (takeC r) with
 |error e=>rfl
 |ok x=>
  obtain ⟨v,m⟩:=x;simp only [closeP];by_cases hm:m< (takeC r).length<;>simp [hm]
theorem j0S{α:Type}{tag:UInt8}{p:PR α}{r:List UInt8}(h:takeE tag r≠0):inP tag p r= .error (takeE tag r):=by
 unfold inP;rw [if_neg h]
theorem j0E(i:Nat)(hi:i≤30)(b:List UInt8)(n:Nat)(hn:n≤b.length)(hb:b.length≤1099511627776):EffX Tryz.prog 94 [.ptr 0 0,rI i,.fn 72 [] []] b n (fun v=>rI v) (needP i intP (b.drop n)):=by
 cases h:nextB i (b.drop n) with
 |false=>
  rw [q8r h,Al];have hs:=z1s i hi b n hn h;have hl:=q6B b n hn;generalize b.length-n=q at*;refine q0g (by simp) ?_
  refine rQ fi94 ?_;refine eQ [0] (hs) ?_;refine eQ [0] (hl) ?_;by_cases hq:q=0
  · simp [hq]
  simp [hq]
 |true=>
  rw [q8h h];by_cases h1:takeE (tagB i) (b.drop n)=0
  · rw [j1V h1];have hs:=z0R i hi b n hn hb h h1;have hc:=q2s (n:=n) hb;generalize takeC (b.drop n)=c at*;generalize takeN (b.drop n)=N at*;cases hx:intP c with
    |error e=>
     have hr:=z5W c 0 (Ai _) hc (by rw [Az];exact hx)
     refine q0g (by simp) ?_
     refine rQ fi94 ?_;refine eQ [0] (hs) ?_;refine eQ [1] (hr) ?_;refine effP [] (z0a (.int .i64 0) e (q6W hx)) ?_;trivial
    |ok x=>
     obtain ⟨v,m⟩:=x;have hm:=q5Q _ _ _ hx;have hr:=z6E c 0 (Ai _) hc (by rw [Az];exact hx)
     have hl:=q6B c m hm;rw [Ac] at hr;simp only [closeP];by_cases hml:m<c.length
     · rw [if_pos hml];refine q0g (by simp) ?_
       refine rQ fi94 ?_;refine eQ [0] (hs) ?_;refine eQ [1] (hr) ?_;refine cQ (q9A _) ?_;refine effP [1] (z6V c m hml) ?_;rfl
     rw [if_neg hml];refine q0g (by simp) ?_
     refine rQ fi94 ?_;refine eQ [0] (hs) ?_;refine eQ [1] (hr) ?_;refine cQ (q9A _) ?_;refine eQ [1] (z5R c m (by omega)) ?_;trivial
  rw [j0S h1];have hs:=z1I i hi b n hn hb h h1;generalize takeE (tagB i) (b.drop n)=e at*;refine q0g (by simp) ?_
  refine rQ fi94 ?_;refine eQ [0] (hs) ?_;exact ⟨fun _=>trivial,fun q=>absurd (by omega) h1⟩
theorem j3W(i:Nat)(hi:i≤30)(b:List UInt8)(n:Nat)(hn:n≤b.length)(hb:b.length≤1099511627776):EffX Tryz.prog 95 [.ptr 0 0,rI i,.fn 96 [] []] b n (fun v=>.isl .u8 v) (needP i octP (b.drop n)):=by
 cases h:nextB i (b.drop n) with
 |false=>
  rw [q8r h,Al];have hs:=z1s i hi b n hn h;have hl:=q6B b n hn;generalize b.length-n=q at*;refine q0g (by simp) ?_
  refine rQ fi95 ?_;refine eQ [0] (hs) ?_;refine eQ [0] (hl) ?_;by_cases hq:q=0
  · simp [hq]
  simp [hq]
 |true=>
  rw [q8h h];by_cases h1:takeE (tagB i) (b.drop n)=0
  · rw [j1V h1];have hs:=z0R i hi b n hn hb h h1;have hc:=q2s (n:=n) hb;generalize takeC (b.drop n)=c at*;generalize takeN (b.drop n)=N at*;cases hx:octP c with
    |error e=>
     have hr:=j2k c 0 (Ai _) hc (by rw [Az];exact hx)
     refine q0g (by simp) ?_
     refine rQ fi95 ?_;refine eQ [0] (hs) ?_;refine eQ [1] (hr) ?_;refine effP [] (q7v [] e (q6W hx)) ?_;trivial
    |ok x=>
     obtain ⟨v,m⟩:=x;have hm:=q5Q _ _ _ hx;have hr:=j3m c 0 (Ai _) hc (by rw [Az];exact hx)
     have hl:=q6B c m hm;rw [Ac] at hr;simp only [closeP];by_cases hml:m<c.length
     · rw [if_pos hml];refine q0g (by simp) ?_
       refine rQ fi95 ?_;refine eQ [0] (hs) ?_;refine eQ [1] (hr) ?_;refine cQ (q6r _) ?_;refine effP [1] (z6V c m hml) ?_;rfl
     rw [if_neg hml];refine q0g (by simp) ?_
     refine rQ fi95 ?_;refine eQ [0] (hs) ?_;refine eQ [1] (hr) ?_;refine cQ (q6r _) ?_;refine eQ [1] (z5R c m (by omega)) ?_;trivial
  rw [j0S h1];have hs:=z1I i hi b n hn hb h h1;generalize takeE (tagB i) (b.drop n)=e at*;refine q0g (by simp) ?_
  refine rQ fi95 ?_;refine eQ [0] (hs) ?_;exact ⟨fun _=>trivial,fun q=>absurd (by omega) h1⟩
def zO{α:Type}(res:α→SV):Except Nat (α×Nat)→Out
 |.ok (v,_)=>.ret (res v)
 |.error e=>.pan (errV e)
def zH{α:Type}(b:List UInt8)(n m:Nat):Except Nat (α×Nat)→List SObj
 |.ok (_,k)=>[rdr b (n+k)]
 |.error _=>[rdr b m]
attribute [go_sem] zO zH
def EffZ(P:Program){α:Type}(f:FuncId)(args:List SV)(b:List UInt8)(n m:Nat)(res:α→SV)(x:Except Nat (α×Nat)):Prop:=PE P f args [rdr b n] (zO res x) (zH b n m x)
theorem z1n{P:Program}{α:Type}{f:FuncId}{args:List SV}{b:List UInt8}{n m:Nat}{res:α→SV}{x:Except Nat (α×Nat)}(h:VC P f args [rdr b n] (SealO (zO res x) (zH b n m x))):EffZ P f args b n m res x:=by
 cases x with
 |error e=>exact q0g (by simp [zH]) h
 |ok y=>exact q0g (by simp [zH]) h
theorem z7n{P:Program}{α:Type}{f:FuncId}{args:List SV}{b:List UInt8}{n m:Nat}{res:α→SV}{x:Except Nat (α×Nat)}{v:α}{k:Nat}(h:EffZ P f args b n m res x)(hx:x= .ok (v,k)):PE P f args [rdr b n] (.ret (res v)) [rdr b (n+k)]:=by rw [hx] at h;exact h
theorem z5U{P:Program}{α:Type}{f:FuncId}{args:List SV}{b:List UInt8}{n m:Nat}{res:α→SV}{x:Except Nat (α×Nat)}{e:Nat}(h:EffZ P f args b n m res x)(hx:x= .error e):PE P f args [rdr b n] (.pan (errV e)) [rdr b m]:=by rw [hx] at h;exact h
def posX(b:List UInt8)(n:Nat):Nat:=if takeE 48 (b.drop n)=0 then n+takeN (b.drop n) else n
theorem j3P{b:List UInt8}{n:Nat}(h:takeE 48 (b.drop n)=0):posX b n=n+takeN (b.drop n):=if_pos h
theorem j3Z{b:List UInt8}{n:Nat}(h:takeE 48 (b.drop n)≠0):posX b n=n:=if_neg h
def tripIn:PR Key:=bindP (needP 0 intP) fun a=>bindP (needP 1 intP) fun k=>bindP (needP 2 octP) fun c=>retP ((a,k,c):Key)
def keyP:PR Key:=inP 48 tripIn
theorem z9b{α β:Type}{p:PR α}{f:α→PR β}{b:List UInt8}{v:α}{k:Nat}(h:p b= .ok (v,k)):bindP p f b=shiftP k (f v (b.drop k)):=by
 have:=q8H (f:=f) (b:=b) (n:=0) (by rw [Az];exact h)
 rwa [Az,Ac] at this
theorem z7B(b:List UInt8)(n:Nat)(hn:n≤b.length)(hb:b.length≤1099511627776):
 EffZ Tryz.prog 66 [.ptr 0 0] b n (posX b n) (fun v:Key=>.tup [rI v.1,rI v.2.1,.isl .u8 v.2.2]) (keyP (b.drop n)):=by
 unfold keyP;by_cases h:takeE 48 (b.drop n)=0
 · have hs:=z5P b n hn hb h;have hc:=q2s (n:=n) hb;rw [j1V h,j3P h];generalize takeC (b.drop n)=c at*;generalize takeN (b.drop n)=N at*;unfold tripIn;refine z1n ?_;refine rQ fi66 ?_;refine eQ [0] (hs) ?_;refine eQ [1] (z7c c 0) ?_;have e1:=j0E 0 (by omega) c 0 (Ai _) hc
   rw [Az] at e1;cases h1:needP 0 intP c with
   |error e=>
    rw [q8O h1];have e1':=z1R e1 h1;simp only [closeP];refine effP [1] (e1') ?_;trivial
   |ok x=>
    obtain ⟨v1,k1⟩:=x;rw [z9b h1];have e1':=z1C e1 h1;have f1:=q5t _ _ _ h1;rw [Ac] at e1';refine eQ [1] (e1') ?_;have e2:=j0E 1 (by omega) c _ f1 hc
    cases h2:needP 1 intP (c.drop k1) with
    |error e=>
     rw [q8O h2];have e2':=z1R e2 h2;simp only [shiftP,closeP];refine effP [1] (e2') ?_;trivial
    |ok x=>
     obtain ⟨v2,k2⟩:=x;rw [q8H h2];have e2':=z1C e2 h2;have f2:=z6H q5t f1 h2;refine eQ [1] (e2') ?_;have e3:=j3W 2 (by omega) c _ f2 hc
     cases h3:needP 2 octP (c.drop (k1+k2)) with
     |error e=>
      rw [q8O h3];have e3':=z1R e3 h3;simp only [shiftP,closeP];refine effP [1] (e3') ?_;trivial
     |ok x=>
      obtain ⟨v3,k3⟩:=x;rw [q8H h3];have e3':=z1C e3 h3;have f3:=z6H q5t f2 h3;simp only [shiftP,retP,closeP];refine eQ [1] (e3') ?_;by_cases hm:k1+k2+k3<c.length
      · rw [if_pos (by omega)]
        refine effP [1] (z6V c _ hm) ?_;rfl
      rw [if_neg (by omega)]
      refine eQ [1] (z5R c (k1+k2+k3) (by omega)) ?_;trivial
 have hs:=z4H b n hn hb h;rw [j0S h,j3Z h];generalize takeE 48 (b.drop n)=e at*;refine z1n ?_;refine rQ fi66 ?_;refine eQ [0] (hs) ?_;refine effP [] (q9y e h) ?_;trivial
def ErrP{α:Type}(p:PR α):Prop:=∀r e,p r= .error e→e≠0
theorem z2b{α:Type}{tag:UInt8}{dec:List UInt8→Option α}:ErrP (rdP tag dec):=fun _ _ h=>q6W h
theorem z6P{α:Type}{tag:UInt8}{p:PR α}(hp:ErrP p):ErrP (inP tag p):=fun r e h=>by
 rcases q6G (tag:=tag) (p:=p) (r:=r) with ⟨h1,e'⟩ | ⟨_,e1,h2,e'⟩ | ⟨_,_,_,_,_,e'⟩ | ⟨_,_,_,_,_,e'⟩ <;>rw [e'] at h<;>cases h
 · exact h1
 · exact hp _ _ h2
 decide
theorem q6x{α:Type}{n:Nat}{p:PR α}(hp:ErrP p):ErrP (needP n p):=fun r e h=>by
 cases hb:nextB n r with
 |false=>
  rw [q8r hb] at h;split at h<;>cases h<;>decide
 |true=>rw [q8h hb] at h;exact z6P hp r e h
theorem q7g{α β:Type}{p:PR α}{f:α→PR β}(hp:ErrP p)(hf:∀v,ErrP (f v)):ErrP (bindP p f):=fun r e h=>by
 unfold bindP at h;cases h1:p r with
 |error e1=>rw [h1] at h;cases h;exact hp r _ h1
 |ok y=>
  obtain ⟨u,k⟩:=y;rw [h1] at h;simp only at h;cases h2:f u (r.drop k) with
  |error e2=>rw [h2] at h;cases h;exact hf u _ _ h2
  |ok z=>obtain ⟨w,l⟩:=z;rw [h2] at h;cases h
theorem z7W{α:Type}{v:α}:ErrP (retP v):=fun _ _ h=>by cases h
theorem z5j:ErrP keyP:=z6P (q7g (q6x z2b) fun _=>q7g (q6x z2b) fun _=>q7g (q6x z2b) fun _=>z7W)
def EffR(P:Program){α:Type}(f:FuncId)(args:List SV)(b:List UInt8)(n:Nat)(res:α→SV)(z:SV):Except Nat (α×Nat)→Prop
 |.ok (v,k)=>PE P f args [rdr b n] (.ret (.tup [res v,rI 0])) [rdr b (n+k)]
 |.error e=>PE P f args [rdr b n] (.ret (.tup [z,rI e])) [rdr b n]
theorem z7F{P:Program}{α:Type}{f:FuncId}{args:List SV}{b:List UInt8}{n:Nat}{res:α→SV}{z:SV}{x:Except Nat (α×Nat)}{v:α}{k:Nat}(h:EffR P f args b n res z x)(hx:x= .ok (v,k)):PE P f args [rdr b n] (.ret (.tup [res v,rI 0])) [rdr b (n+k)]:=by rw [hx] at h;exact h
theorem z6g{P:Program}{α:Type}{f:FuncId}{args:List SV}{b:List UInt8}{n:Nat}{res:α→SV}{z:SV}{x:Except Nat (α×Nat)}{e:Nat}(h:EffR P f args b n res z x)(hx:x= .error e):PE P f args [rdr b n] (.ret (.tup [z,rI e])) [rdr b n]:=by rw [hx] at h;exact h
abbrev zKey:SV:=.agg [rI 0,rI 0,.isl .u8 []]
theorem z8Y(a v:Int)(c:List UInt8):(keyS (a,v,c)).length≤c.length+58:=by
 have i1:=q5S a;have i2:=q5S v;have w3:=q2o 4 [c];simp only [AR,BA,Ah] at w3;have w0:=q3n 160 0 (intS a);have w1:=q3n 160 1 (intS v);have w2:=q3n 160 2 (elemS 4 [c]);show (wholeS [wrapS 160 0 (intS a),wrapS 160 1 (intS v),wrapS 160 2 (elemS 4 [c])]).length≤_;have w4:=q2o 48 [wrapS 160 0 (intS a),wrapS 160 1 (intS v),wrapS 160 2 (elemS 4 [c])];simp only [AR,BA,Ah,Ad] at w4;unfold wholeS;split
 · omega
 simp
theorem flat_len{α:Type}(f:α→List UInt8)(B:Nat):∀l:List α,(∀x∈l,(f x).length≤B)→(l.map f).flatten.length≤B*l.length
 | [],_=>by simp
 |x :: l,h=>by
  have h1:=h x (by simp)
  have h2:=flat_len f B l fun y hy=>h y (by simp [hy])
  simp only [AL,AR,Ad,AM,CO,Ay];omega
def rO{α:Type}(res:α→SV)(z:SV):Except Nat (α×Nat)→Out
 |.ok (v,_)=>.ret (.tup [res v,rI 0])
 |.error e=>.ret (.tup [z,rI e])
def rH{α:Type}(b:List UInt8)(n:Nat):Except Nat (α×Nat)→List SObj
 |.ok (_,k)=>[rdr b (n+k)]
 |.error _=>[rdr b n]
attribute [go_sem] rO rH
@[go_sem] abbrev mU(o:Int):SV:=.raw (.int .u32 o)
theorem q9J(k:Key):PC Tryz.prog 18 [.agg (KeyT.cells k)] (.isl .u8 (keyS k)):=by
 refine q0i rfl rfl ?_;refine rQ fi18 ?_;refine cQ (z9L _ _ _) ?_;trivial
def kp(k:Int):Int:=k+1
theorem j1P(b:List UInt8)(n:Nat)(hn:n≤b.length)(hb:b.length≤1099511627776):
 EffZ Tryz.prog 65 [.ptr 0 0] b n (posX b n) (fun v:Key=>.agg (KeyT.cells v)) (keyP (b.drop n)):=by
 have ht:=z7B b n hn hb;refine z1n ?_;generalize keyP (b.drop n)=X at*;cases X with
 |error e=>
  have ht':=z5U ht rfl;refine rQ fi65 ?_;refine effP [0] (ht') ?_;trivial
 |ok x=>
  obtain ⟨v,k⟩:=x;have ht':=z7n ht rfl;refine rQ fi65 ?_;refine eQ [0] (ht') ?_;trivial
theorem z9E(b:List UInt8)(n m e:Nat)(T2 T4 T5 T6:TypeId)(y:Value)(K:List SObj→Prop)
 (h:∀G,K ([rdr b n,.cells T2 [.ptr 0 0],.cells T4 [rI 0,rI 0,.raw (.slice none 0 0)],.cells T5 [rI e],.cells T6 [rI n]]++G)):
 DCall Tryz.prog 92 [.ptr 4 0,.ptr 1 0,.ptr 2 0,.ptr 3 0] (some (errV e)) [rdr b m,.cells T2 [.ptr 0 0],.cells T4 [rI 0,rI 0,.raw (.slice none 0 0)],.cells T5 [.raw y],.cells T6 [rI n]] K:=by
 refine j4S fi92 ?_;refine uQ 16 _ ?_;with_reducible refine sxE ?_
 refine q1N [999999,1,4,5] mixed ?_;refine uQ 600 _ ?_;simp (maxSteps:=3000000) only [List.getElem?_nil,go_sem,↓zA,↓reduceIte,↓reduceDIte] <;>try simp only [zB]
 exact h _
theorem z9j(H:List SObj)(K:List SObj→Prop)(h:∀G,K (H++G)):DCall Tryz.prog 92 [.ptr 4 0,.ptr 1 0,.ptr 2 0,.ptr 3 0] none H K:=by
 refine recE mixed fi92 ?_;simpa using h []
theorem j1G(b:List UInt8)(n:Nat)(hn:n≤b.length)(hb:b.length≤1099511627776):
 EffR Tryz.prog 64 [.ptr 0 0,.fn 65 [] []] b n (fun v:Key=>.agg (KeyT.cells v)) zKey (keyP (b.drop n)):=by
 have hk:=j1P b n hn hb;generalize keyP (b.drop n)=X at*;cases X with
 |error e=>
  have hk':=z5U hk rfl;refine q0g (by simp) ?_
  refine defE mixed fi64 ?_;refine gQ ?_;refine effP [0] (hk') ?_;refine ⟨by simp,z9E b n _ e _ _ _ _ _ _ fun G=> ?_⟩
  with_reducible refine sxE ?_;trivial
 |ok x=>
  obtain ⟨v,k⟩:=x;have hk':=z7n hk rfl;refine q0g (by simp) ?_
  refine defE mixed fi64 ?_;refine gQ ?_;refine eQ [0] (hk') ?_;refine z9j _ _ fun G=> ?_;with_reducible refine sxE ?_;trivial
theorem z8I(b:List UInt8)(n:Nat)(hn:n≤b.length)(hb:b.length≤1099511627776):
 EffR Tryz.prog 34 [.ptr 0 0] b n (fun v:Key=>.agg (KeyT.cells v)) zKey (keyP (b.drop n)):=by
 have hk:=j1G b n hn hb;generalize keyP (b.drop n)=X at*;cases X with
 |error e=>
  have hk':=z6g hk rfl;refine q0g (by simp) ?_
  refine rQ fi34 ?_;refine eQ [0] (hk') ?_;trivial
 |ok x=>
  obtain ⟨v,k⟩:=x;have hk':=z7F hk rfl;refine q0g (by simp) ?_
  refine rQ fi34 ?_;refine eQ [0] (hk') ?_;trivial
theorem j1C(b:List UInt8)(n:Nat)(hn:n≤b.length)(hb:b.length≤1099511627776):
 EffR Tryz.prog 72 [.ptr 0 0] b n (fun v:Int=>rI v) (rI 0) (intP (b.drop n)):=by
 cases hx:intP (b.drop n) with
 |error e=>exact z5W b n hn hb hx
 |ok x=>
  obtain ⟨v,k⟩:=x;exact z6E b n hn hb hx
set_option maxHeartbeats 40000000
theorem q6A(k:Key)(ho:KeyT.ok k):PC Tryz.prog 16 [.agg (KeyT.cells k)] (rB (vKey k)):=by
 have hf:=j0i k;obtain ⟨p,v,b⟩:=k;change PC _ _ _ (.tup [.agg (rawL (kindOf p)),rB (vKey (p,v,b))]) at hf;generalize vKey (p,v,b)=vb at*;have h3:=q5I p;generalize kindOf p=kv at*;refine q0p rfl rfl ?_;rcases h3 with rfl|rfl|rfl
 all_goals
  refine rQ fi16 ?_;refine cQ hf ?_;trivial
def plnS(t m:Int):List UInt8:=elemS 48 [wrapS 160 0 (timeS t),wrapS 160 1 (intS m)]
def mkOk(k:Key)(t m:Int):Bool:=vKey k&& (decide (0≤t) && (decide (t≤1099511627776) && (decide (0≤m) && decide (m<1000000))))
theorem j2W(t m:Int):(plnS t m).length≤100:=by
 unfold plnS;have h:=q2o 48 [wrapS 160 0 (timeS t),wrapS 160 1 (intS m)];have h1:=q3n 160 0 (timeS t);have h2:=q3n 160 1 (intS m);have h3:(timeS t).length≤20:=by
  unfold timeS;split
  · have:=q2o 24 [numS t 6];have h1:(numS t 6).length=6:=by simp [numS]
    simp only [AR,BA,Ah] at this;omega
  simp
 have h4:=q5S m;simp only [AR,BA,Ah,Ad] at h;omega
def mkG(k:Key)(t m:Int)(conf:List UInt8):SV:=if mkOk k t m=true∧conf.length=16 then .tup [.agg [rI 2,.isl .u8 (keyS (k.1,k.2.1,seS k 1 conf (plnS t m)))],rI 0] else .tup [.agg [rI 0,.isl .u8 []],rI 2]
theorem j3H{k:Key}{t m:Int}{conf:List UInt8}(h:conf.length≠16):mkG k t m conf= .tup [.agg [rI 0,.isl .u8 []],rI 2]:=by
 unfold mkG;rw [if_neg (fun h'=>h h'.2)]
theorem z9t(k:Key)(t m:Int)(conf:List UInt8)(ho:KeyT.ok k)(hv:mkOk k t m=true):PC Tryz.prog 10 [.agg (KeyT.cells k),rI t,rI m,.isl .u8 conf] (mkG k t m conf):=by
 have hmk:mkG k t m conf=if conf.length=16 then .tup [.agg [rI 2,.isl .u8 (keyS (k.1,k.2.1,seS k 1 conf (plnS t m)))],rI 0] else .tup [.agg [rI 0,.isl .u8 []],rI 2]:=by unfold mkG;rw [hv];simp
 unfold mkOk at hv;simp only [Am,decide_eq_true_eq] at hv;obtain ⟨h1,h2,h3,h4,h5⟩:=hv;have hu:uOk k (1:Nat)=true:=by unfold uOk;rw [h1];decide
 have hva:=q6A k ho;have hse:=z7L k 1 conf (plnS t m) ho;have hps:=j2W t m;unfold slO at hse;have hds:=q9J (k.1,k.2.1,seS k 1 conf (plnS t m));rw [h1] at hva;have f2:(t<0)=False:=eq_false (by omega)
 have f3:(1099511627776<t)=False:=eq_false (by omega)
 have f4:(m<0)=False:=eq_false (by omega)
 have f5:(1000000≤m)=False:=eq_false (by omega)
 have hsq:=q7M [wrapS 160 0 (timeS t),wrapS 160 1 (intS m)] (by simp)
 change PC _ _ _ (.isl .u8 (plnS t m)) at hsq;rw [hmk];clear hmk;by_cases hc:conf.length=16
 · rw [if_pos ⟨hu,hc,by omega⟩] at hse
   rw [if_pos hc];generalize seS k 1 conf (plnS t m)=y at*;generalize plnS t m=pl at*;obtain ⟨p,v,b⟩:=k;dsimp only at*;refine q0p rfl rfl ?_;refine q0Z fi10 ?_;refine gQ ?_;refine cy4 hva f2 f3 f4 f5 ?_;refine cQ (j0q t) ?_;refine cQ (q4y 0 (timeS t)) ?_;refine cQ (q3i m) ?_;refine cQ (q4y 1 (intS m)) ?_;refine q0q 2 ?_;with_reducible refine sxE ?_
   refine cQ hsq ?_;refine cQ hse ?_;refine cQ hds ?_;trivial
 rw [if_neg (fun h=>hc h.2.1)] at hse;rw [if_neg hc];generalize seS k 1 conf (plnS t m)=y at*;generalize plnS t m=pl at*;obtain ⟨p,v,b⟩:=k;dsimp only at*;refine q0i rfl rfl ?_;refine q0Z fi10 ?_;refine gQ ?_;refine cy4 hva f2 f3 f4 f5 ?_;refine cQ (j0q t) ?_;refine cQ (q4y 0 (timeS t)) ?_;refine cQ (q3i m) ?_;refine cQ (q4y 1 (intS m)) ?_;refine q0q 2 ?_;with_reducible refine sxE ?_
 refine cQ hsq ?_;refine cQ hse ?_;trivial
theorem z7j(k:Key)(t m:Int)(conf:List UInt8)(ho:KeyT.ok k)(hv:mkOk k t m=false):PC Tryz.prog 10 [.agg (KeyT.cells k),rI t,rI m,.isl .u8 conf] (.tup [.agg [rI 0,.isl .u8 []],rI 2]):=by
 have hva:=q6A k ho;unfold mkOk at hv;obtain ⟨p,v,b⟩:=k;refine q0i rfl rfl ?_;refine q0Z fi10 ?_;refine gQ ?_;refine q0a hva ?_;generalize vKey (p,v,b)=vb at*;cases vb with
 |false=>
  refine gQ ?_;trivial
 |true=>
  by_cases c2:t<0
  · have f2:(t<0)=True:=eq_true c2;refine gy1 f2 ?_;trivial
  have f2:(t<0)=False:=eq_false c2;by_cases c3:1099511627776<t
  · have f3:(1099511627776<t)=True:=eq_true c3;refine gy2 f2 f3 ?_;trivial
  have f3:(1099511627776<t)=False:=eq_false c3;by_cases c4:m<0
  · have f4:(m<0)=True:=eq_true c4;refine gy3 f2 f3 f4 ?_;trivial
  have f4:(m<0)=False:=eq_false c4;by_cases c5:1000000≤m
  · have f5:(1000000≤m)=True:=eq_true c5;refine gy4 f2 f3 f4 f5 ?_;trivial
  exfalso;simp at hv;omega
theorem z5I(k:Key)(t m:Int)(conf:List UInt8)(ho:KeyT.ok k):PC Tryz.prog 10 [.agg (KeyT.cells k),rI t,rI m,.isl .u8 conf] (mkG k t m conf):=by
 by_cases hv:mkOk k t m=true
 · exact z9t k t m conf ho hv
 have h:=z7j k t m conf ho (by simpa using hv)
 unfold mkG;rwa [if_neg (fun h'=>hv h'.1)]
end Go.Proofs.YtikapabgggphpaaGreatDoor
