/- Contracts: the encoding of integers, times, strings, keys. -/
import Derived.Test.YtikapabgggphpaaGreatDoorP27
import Derived.Test.YtikapabgggphpaaGreatDoorP24
import Derived.Test.YtikapabgggphpaaGreatDoorP17
import Derived.Test.YtikapabgggphpaaGreatDoorP13
set_option linter.all false
namespace Go.Proofs.YtikapabgggphpaaGreatDoor
open Go Go.Sx Go.Proofs
set_option maxRecDepth 100000
set_option maxHeartbeats 4000000
def byteAt(v:Int)(k:Nat):UInt8:=byteOf (v.fdiv (2^ min (8*k) 64))
def numN(v:Int)(size i:Nat):List UInt8:=(List.range size).map fun j=>if size-1-j<i then byteAt v (size-1-j) else 0
def numS(v:Int)(size:Nat):List UInt8:=(List.range size).map fun j=>byteAt v (size-1-j)
theorem z6r(v:Int)(size:Nat):List.replicate size (0:UInt8)=numN v size 0:=by
 apply As
 · simp [numN]
 intro j h1 h2;simp [numN]
theorem z7W(v:Int)(size:Nat):numN v size size=numS v size:=by
 apply As
 · simp [numN,numS]
 intro j h1 h2;simp [numN,numS];simp [numN] at h1;intro h;omega
theorem z8O{v:Int}{size i:Nat}(h:i<size):(numN v size i).set (size-1-i) (byteAt v i)=numN v size (i+1):=by
 apply As
 · simp [numN]
 intro j h1 h2;simp [numN] at h2;simp only [numN,A7,AA,Ax];split
 · rename_i e;have:size-1-j=i:=by omega
   rw [this,if_pos (by omega)]
 rename_i e
 by_cases h3:size-1-j<i
 · rw [if_pos h3,if_pos (by omega)]
 rw [if_neg h3,if_neg (by omega)]
theorem z2D(v:Int)(size:Nat)(hs:size≤64):PC Tryz.prog 50 [rI v,rI size] (.isl .u8 (numS v size)):=by
 refine q0i rfl rfl ?_;refine rQ fi50 ?_;refine ⟨by omega,?_⟩
 refine q0f (ι:=Nat) (fun i=>[(11,rI i)]) (fun i=>[.row .u8 (numN v size i)]) (fun i=>size-i) (fun i=>i≤size) 0 (Aj _) (by rw [←z6r];rfl) ?_ ?_
 · with_reducible refine sxE ?_;trivial
 intro i hi;have w3:IntKind.i64.wrap (8* (i:Int))=((8*i:Nat):Int):=by rw [wrapi (by omega)];rfl
 have hwr:=wsx i (by omega)
 have hln:(numN v size i).length=size:=by simp [numN]
 by_cases hlt:i<size
 · have w1:IntKind.i64.wrap ((size:Int) -1)=((size-1:Nat):Int):=by rw [wrapi (by omega)];omega
   have w2:IntKind.i64.wrap (((size-1:Nat):Int) - (i:Int))=((size-1-i:Nat):Int):=by rw [wrapi (by omega)];omega
   refine gy4 w1 w2 w3 hln ?_;refine ⟨fun _=>⟨by omega,⟨by omega,by omega⟩,⟨by omega,q0T _⟩,i+1,hlt,by dsimp only;omega,?_,?_⟩,fun h=>absurd hlt h⟩
   · dsimp only;rw [←z8O hlt,Nat.zero_add];rfl
   with_reducible refine sx1 hwr ?_;trivial
 refine uQ 600 _ ?_
 with_reducible refine sx1 hln ?_
 refine ⟨fun h=>absurd h hlt,fun _=>⟨⟨by omega,by omega⟩,?_⟩⟩
 obtain rfl:i=size:=by omega
 rw [z7W,Aa (by simp [numS])]
theorem q2D(tag:UInt8)(n:Int)(hn:n=tag.toNat)(parts:List (List UInt8))(hp:parts.length≤1125899906842624):PC Tryz.prog 48 [.raw (.int .u8 n),.isl (.slice .u8) parts] (.isl .u8 (elemS tag parts)):=by
 subst hn;exact z6W tag parts hp

def restN(v:Int):Nat→Int
 |0=>v
 |k+1=>(restN v k).fdiv 256
def firstN(n:Nat)(q:Nat→Bool):Option Nat:=(List.range n).find? q
theorem q7h{n i:Nat}{q:Nat→Bool}(hi:i<n)(hq:q i=true)(hn:∀j,j<i→q j=false):firstN n q=some i:=by
 unfold firstN;rw [List.find?_range_eq_some];exact ⟨hq,by simpa using hi,fun j hj=>by rw [hn j hj];rfl⟩
theorem q4h{n i:Nat}{q:Nat→Bool}(h:firstN n q=some i):i<n∧q i=true∧∀j,j<i→q j=false:=by
 unfold firstN at h;rw [List.find?_range_eq_some] at h;exact ⟨by simpa using h.2.1,h.1,fun j hj=>by simpa using h.2.2 j hj⟩
def oneB(v:Int)(k:Nat):Bool:=decide (-128≤restN v k) && decide (restN v k≤127)
def intSz(v:Int):Nat:=1+ (firstN 9 (oneB v)).getD 0
def intS(v:Int):List UInt8:=if -4611686018427387904≤v∧v≤4611686018427387904 then elemS 2 [numS v (intSz v)] else []
theorem fdiv256(r:Int):r.fdiv 256=r / 256:=AX r (by decide)
theorem rest8{v:Int}(h1: -4611686018427387904≤v)(h2:v≤4611686018427387904):oneB v 8=true:=by
 simp only [oneB,restN,fdiv256,Am,decide_eq_true_eq];omega
theorem q3v(v:Int):PC Tryz.prog 27 [rI v] (.isl .u8 (intS v)):=by
 refine q0i rfl rfl ?_;refine rQ fi27 ?_<;>try with_reducible exact True.intro
 repeat' (first
  | (with_reducible refine And.intro ?_ ?_)
  | (with_reducible intro _))
 all_goals (skip)
 · unfold intS;rw [if_neg (by omega)]
 rotate_left
 · unfold intS;rw [if_neg (by omega)]
 rename_i h1 h2;have h8:=rest8 (v:=v) (by omega) (by omega)
 refine q0f (ι:=Nat) (fun k=>[(3,rI ((1+k:Nat):Int)),(4,rI (restN v k))]) (fun _=>[]) (fun k=>9-k) (fun k=>k≤8∧∀j,j<k→oneB v j=false) 0 ⟨by omega,fun j hj=>absurd hj (by omega)⟩ rfl ?_ ?_
 · simp (maxSteps:=3000000) only [restN,go_sem,↓zA,↓reduceIte,↓reduceDIte] <;>try simp only [zB]
   rfl
 rintro k ⟨hk,hall⟩;have hwr:IntKind.i64.wrap (((1+k:Nat):Int)+1)=((1+ (k+1):Nat):Int):=by rw [wrapi (by omega)];omega
 refine gy1 hwr ?_;have hp:(2:Int) ^ min 8 64=256:=by decide
 refine ⟨fun h3=>⟨fun h4=> ?_,fun h4=> ?_⟩,fun h3=> ?_⟩
 · have ho:oneB v k=false:=by simp [oneB];omega
   have hk8:k≠8:=fun e=>by subst e;rw [h8] at ho;cases ho
   refine ⟨k+1,⟨by omega,q0P hall ho⟩,by dsimp only;omega,rfl,?_⟩
   simp (maxSteps:=3000000) only [restN,hp,go_sem,↓zA,↓reduceIte,↓reduceDIte] <;>try simp only [zB]
 · have ho:oneB v k=true:=by simp [oneB];omega
   have hz:intSz v=1+k:=by unfold intSz;rw [q7h (by omega) ho hall];rfl
   refine q0a (z2D v (1+k) (by omega)) ?_
   refine gQ ?_;refine q0k 0 ?_
   with_reducible refine sxE ?_
   refine q0a (q2D 2 2 rfl _ (by simp)) ?_
   refine gQ ?_;unfold intS;rw [if_pos (by omega),hz]
 have ho:oneB v k=false:=by simp [oneB];omega
 have hk8:k≠8:=fun e=>by subst e;rw [h8] at ho;cases ho
 refine ⟨k+1,⟨by omega,q0P hall ho⟩,by dsimp only;omega,rfl,?_⟩
 simp (maxSteps:=3000000) only [restN,hp,go_sem,↓zA,↓reduceIte,↓reduceDIte] <;>try simp only [zB]
theorem z8m(b:List UInt8):PC Tryz.prog 86 [.isl .u8 b] (.isl .u8 (elemS 4 [b])):=by
 refine q0i rfl rfl ?_;refine rQ fi86 ?_;refine q0k 0 ?_
 with_reducible refine sxE ?_
 refine q0a (q2D 4 4 rfl _ (by simp)) ?_
 refine gQ ?_;trivial
def timeS(t:Int):List UInt8:=if 0≤t∧t≤1099511627776 then elemS 24 [numS t 6] else []
theorem j0b(t:Int):PC Tryz.prog 26 [rI t] (.isl .u8 (timeS t)):=by
 refine q0i rfl rfl ?_;refine rQ fi26 ?_;refine ⟨fun h1=>⟨fun h2=> ?_,fun h2=> ?_⟩,fun h1=> ?_⟩
 · unfold timeS;rw [if_neg (by omega)]
 · refine q0a (z2D t 6 (by omega)) ?_
   refine gQ ?_;refine q0k 0 ?_
   with_reducible refine sxE ?_
   refine q0a (q2D 24 24 rfl _ (by simp)) ?_
   refine gQ ?_;unfold timeS;rw [if_pos (by omega)]
 unfold timeS;rw [if_neg (by omega)]
theorem q7M(l:List (List UInt8))(hl:l.length≤1125899906842624):PC Tryz.prog 24 [.isl (.slice .u8) l] (.isl .u8 (elemS 48 l)):=by
 refine q0i rfl rfl ?_;refine rQ fi24 ?_;refine q0a (q2D 48 48 rfl _ hl) ?_;refine gQ ?_;trivial
def wrapS(tag n:Int)(b:List UInt8):List UInt8:=if 0≤n∧n≤30∧b≠ [] then elemS (byteOf (tag+n)) [b] else []
theorem z7l(tag n:Int)(b:List UInt8)(ht:0≤tag∧tag≤1000):PC Tryz.prog 49 [rI tag,rI n,.isl .u8 b] (.isl .u8 (wrapS tag n b)):=by
 refine q0i rfl rfl ?_;refine rQ fi49 ?_;refine ⟨fun h1=>⟨fun h2=>⟨fun h3=> ?_,fun h3=> ?_⟩,fun h2=> ?_⟩,fun h1=> ?_⟩
 · unfold wrapS;rw [if_neg (fun h=>h.2.2 (Bm.1 (by omega)))]
 · refine q0k 0 ?_
   with_reducible refine sxE ?_
   refine q0a (q2D (byteOf (tag+n)) _ ?_ _ (by simp)) ?_
   · rw [wrapi (by omega)];exact (q0T _).symm
   refine gQ ?_;unfold wrapS;rw [if_pos ⟨by omega,by omega,fun e=>h3 (by rw [e];rfl)⟩]
 · unfold wrapS;rw [if_neg (by omega)]
 unfold wrapS;rw [if_neg (by omega)]
theorem q4u(n:Int)(b:List UInt8):PC Tryz.prog 25 [rI n,.isl .u8 b] (.isl .u8 (wrapS 160 n b)):=by
 refine q0i rfl rfl ?_;refine rQ fi25 ?_;refine q0a (z7l 160 n b (by omega)) ?_
 refine gQ ?_;trivial
def fullAt(l:List (List UInt8))(j:Nat):Bool:=decide (l.getD j (Ty.slice .u8).dflt≠ [])
def wholeS(l:List (List UInt8)):List UInt8:=if allN l.length (fullAt l) then elemS 48 l else []
theorem j1M(l:List (List UInt8))(hl:l.length≤1125899906842624):PC Tryz.prog 124 [.isl (.slice .u8) l] (.isl .u8 (wholeS l)):=by
 refine q0i rfl rfl ?_;refine rQ fi124 ?_;refine q4l (fun i=>[(7,.raw (.int .i64 ((i:Nat):Int)))]) (l.length) (fun j=>(fullAt l) j=true) (by first|decide|simp) (fun i=>rfl) ?_ fun i hi hall=> ?_
 · (with_reducible refine sxE ?_<;>try exact True.intro)
   all_goals (try rfl)
 have hwr:=wsx i (by omega)
 refine gQ ?_;have bad:i< (l.length)→(fullAt l) i=false→allN (l.length) (fullAt l)=false:=fun hlt hv=>q1P hlt hv;have fin:¬i< (l.length)→allN (l.length) (fullAt l)=true:=fun h=>q1U fun j hj=>hall j (by omega)
 try dsimp only at bad fin hall
 refine ⟨fun hlt=>⟨⟨by omega,hlt⟩,fun h0=> ?_,fun h0=> ?_⟩,fun hge=>q0a (q7M l hl) ?_⟩
 · have:fullAt l i=false:=by simp only [fullAt,decide_eq_false_iff_not,ne_eq,Classical.not_not];exact Bm.1 (by omega)
   unfold wholeS;rw [bad hlt this];rfl
 · refine ⟨hlt,q0P hall ?_,⟨_,rfl⟩,?_⟩
   · simp only [fullAt,decide_eq_true_eq];exact fun e=>h0 (by rw [e];rfl)
   with_reducible refine sx1 hwr ?_;trivial
 refine gQ ?_;unfold wholeS;rw [fin hge];rfl
def tagN(l:List (List UInt8))(i:Nat):List (List UInt8):=(List.range i).map fun (j:Nat)=>wrapS 160 j (l.getD j (Ty.slice .u8).dflt)
theorem z5P(l:List (List UInt8))(i:Nat):tagN l (i+1)=tagN l i++ [wrapS 160 i (l.getD i (Ty.slice .u8).dflt)]:=by simp [tagN,BE]
def fieldsS(l:List (List UInt8)):List UInt8:=wholeS (tagN l l.length)
theorem z9n(l:List (List UInt8))(hl:l.length≤1048576):PC Tryz.prog 85 [.isl (.slice .u8) l] (.isl .u8 (fieldsS l)):=by
 refine q0i rfl rfl ?_;refine rQ fi85 ?_;refine q3b 3 (.slice .u8) (fun i=>tagN l i) (fun i=>[(8,rI i)]) l.length (fun _=>True) rfl (by simp) (by simp [tagN]) rfl (fun i=>rfl) ?_ fun i hi _=> ?_
 · with_reducible refine sxE ?_;trivial
 have hwr:=wsx i (by omega)
 have hln:(tagN l i).length=i:=by simp [tagN]
 have hst:=z5P l i;refine gQ ?_;refine ⟨fun hlt=>⟨⟨by omega,hlt⟩,q0a (q4u _ _) ?_⟩,fun hge=> ?_⟩
 · refine gQ ?_;refine ⟨⟨by omega,by omega⟩,q1s [_,_] [] hlt trivial (by rw [hst];rfl) ?_⟩
   with_reducible refine sx3 hwr hst ?_;trivial
 obtain rfl:i=l.length:=by omega
 refine q0k 0 ?_
 with_reducible refine sxE ?_
 refine ⟨by omega,?_⟩
 rw [Aa (by omega)]
 refine ⟨Ag _,q0a (j1M (tagN l l.length) (by omega)) ?_⟩
 refine gQ ?_;rfl
def keyS(k:Key):List UInt8:=fieldsS [intS k.1,intS k.2.1,elemS 4 [k.2.2]]
theorem z8Z(p v:Int)(b:List UInt8):PC Tryz.prog 45 [rI p,rI v,.isl .u8 b] (.isl .u8 (keyS (p,v,b))):=by
 refine q0i rfl rfl ?_;refine rQ fi45 ?_;refine q0a (q3v p) ?_;refine gQ ?_;refine q0a (q3v v) ?_;refine gQ ?_;refine q0a (z8m b) ?_;refine gQ ?_;refine q0k 0 ?_
 with_reducible refine sxE ?_
 refine q0a (z9n _ (by simp)) ?_
 refine gQ ?_;rfl
abbrev PreT:Ty:=.prod I64 (.slice .u8)
abbrev Pre:=PreT.den
def beN(l:List UInt8):Nat:=l.foldl (fun v c=>v*256+c.toNat) 0
theorem q5W(l:List UInt8)(i:Nat)(h:i<l.length):beN (l.take (i+1))=beN (l.take i)*256+ (l.getD i 0).toNat:=by
 unfold beN;rw [CF,List.foldl_append,Ae h,Ab,Ae h];rfl
theorem q7g:∀ (l:List UInt8),beN l<256^ l.length:=by
 intro l;have:∀ (l:List UInt8) (v:Nat),l.foldl (fun v c=>v*256+c.toNat) v< (v+1)*256^ l.length:=by
  intro l
  induction l with
  |nil=>intro v;simp
  |cons c l ih=>
   intro v;have h1:=ih (v*256+c.toNat);have h2:c.toNat<256:=c.toNat_lt;simp only [BD,AK,Cg];refine An h1 ?_;have:(v*256+c.toNat+1)*256^ l.length≤((v+1)*256)*256^ l.length:=A2 _ (by omega)
   calc _≤_:=this
    _=_:=by rw [Nat.mul_assoc,Ch 256]
 have h:=this l 0;simpa [beN] using h
theorem q9t(v c:Nat)(hv:v<36028797018963968)(hc:c<256):IntKind.i64.wrap ((BitVec.ofInt 64 ((v*256:Nat):Int) |||BitVec.ofInt 64 ((c:Nat):Int)).toNat:Int)=((v*256+c:Nat):Int):=by
 have h1:(BitVec.ofInt 64 ((v*256:Nat):Int)).toNat=v*256:=by rw [AP,AZ];exact AV (by omega)
 have h2:(BitVec.ofInt 64 ((c:Nat):Int)).toNat=c:=by rw [AP,AZ];exact AV (by omega)
 have h3:v*256|||c=v*256+c:=by
  have:=Co (b:=c) (i:=8) hc v;rw [CJ] at this;exact this.symm
 rw [Ca,h1,h2,h3];exact wrapi (by omega)
theorem z4a(b:List UInt8)(hb:b.length≤7):PC Tryz.prog 105 [.isl .u8 b] (rI (beN b)):=by
 refine q0q rfl rfl ?_;refine rQ fi105 ?_;refine q4l (fun i=>[(2,rI (beN (b.take i))),(7,.raw (.int .i64 ((i:Nat):Int)))]) (b.length) (fun j=>(fun _=>true) j=true) (by first|decide|simp) (fun i=>rfl) ?_ fun i hi hall=> ?_
 · (with_reducible refine sxE ?_<;>try exact True.intro)
   all_goals (try rfl)
 have hwr:=wsx i (by omega)
 refine gQ ?_;have bad:i< (b.length)→(fun _=>true) i=false→allN (b.length) (fun _=>true)=false:=fun hlt hv=>q1P hlt hv;have fin:¬i< (b.length)→allN (b.length) (fun _=>true)=true:=fun h=>q1U fun j hj=>hall j (by omega)
 try dsimp only at bad fin hall
 refine ⟨fun hlt=>⟨⟨by omega,hlt⟩,?_⟩,fun hge=> ?_⟩
 · have hv:=q7g (b.take i);have hv2:256^ (b.take i).length≤256^ 6:=Bp (by decide) (by simp;omega)
   have hc:(b.getD i Ty.u8.dflt).toNat<256:=B1 _;have e1:IntKind.i64.wrap ((beN (b.take i):Int)*2^ min 8 64)=((beN (b.take i)*256:Nat):Int):=by
    rw [show ((beN (b.take i):Int)*2^ min 8 64)=((beN (b.take i)*256:Nat):Int) by simp]
    exact wrapi (by omega)
   have e2:IntKind.i64.wrap ((b.getD i Ty.u8.dflt).toNat:Int)=(((b.getD i Ty.u8.dflt).toNat:Nat):Int):=wrapi (by omega)
   have e3:=q9t (beN (b.take i)) (b.getD i Ty.u8.dflt).toNat (by omega) hc
   have e4:=q5W b i hlt;rw [e1,e2];refine ⟨hlt,trivial,⟨[],rfl⟩,?_⟩
   with_reducible refine sx1 hwr ?_
   rw [e4];exact congrArg (Value.int .i64) e3
 obtain rfl:i=b.length:=by omega
 rw [AE]
def minLen:Nat→Nat
 |1=>128|2=>256|3=>65536|_=>0
def measE(b:List UInt8)(at_ n:Nat):Nat×Nat×Nat:=if b.length-at_<n then (0,0,4) else (at_,at_+n,0)
def meas(b:List UInt8):Nat×Nat×Nat:=
 if b.length<2 then (0,0,4) else
 if (b.getD 1 0).toNat<128 then measE b 2 (b.getD 1 0).toNat else
 if (b.getD 1 0).toNat-128<1∨3< (b.getD 1 0).toNat-128 then (0,0,6) else
 if b.length<2+ ((b.getD 1 0).toNat-128) then (0,0,4) else
 if beN ((b.drop 2).take ((b.getD 1 0).toNat-128)) <minLen ((b.getD 1 0).toNat-128) then (0,0,6) else
 measE b (2+ ((b.getD 1 0).toNat-128)) (beN ((b.drop 2).take ((b.getD 1 0).toNat-128)))
def measV(m:Nat×Nat×Nat):SV:=.tup [rI m.1,rI m.2.1,rI m.2.2]
theorem z6K(b:List UInt8)(hb:b.length≤1099511627776):PC Tryz.prog 147 [.isl .u8 b] (measV (meas b)):=by
 refine q0q rfl rfl ?_;have hx:(b.getD 1 Ty.u8.dflt).toNat<256:=B1 _;have e0:IntKind.i64.wrap ((b.getD 1 Ty.u8.dflt).toNat:Int)=(((b.getD 1 Ty.u8.dflt).toNat:Nat):Int):=wrapi (by omega)
 have e1:IntKind.i64.wrap (((b.getD 1 Ty.u8.dflt).toNat:Int) -128)=((b.getD 1 Ty.u8.dflt).toNat:Int) -128:=wrapi (by omega)
 have e2:IntKind.i64.wrap (2+ (((b.getD 1 Ty.u8.dflt).toNat:Int) -128))=2+ (((b.getD 1 Ty.u8.dflt).toNat:Int) -128):=wrapi (by omega)
 have e3:IntKind.i64.wrap ((b.length:Int) -2)=(b.length:Int) -2:=wrapi (by omega)
 have e4:IntKind.i64.wrap (2+ ((b.getD 1 Ty.u8.dflt).toNat:Int))=2+ ((b.getD 1 Ty.u8.dflt).toNat:Int):=wrapi (by omega)
 have hm:∀r,meas b=r→measV (meas b)=measV r:=fun r h=>by rw [h]
 unfold measV;refine ry5 fi147 e0 e1 e2 e3 e4 ?_;have hd:b.getD 1 0=b.getD 1 Ty.u8.dflt:=rfl;generalize hxx:b.getD 1 Ty.u8.dflt=x at*;refine ⟨fun h=> ?_,fun h=>⟨by omega,fun h2=>⟨fun h3=>⟨fun h4=> ?_,fun h4=>⟨fun h5=> ?_,fun h5=>⟨⟨by omega,by omega,by omega⟩,?_⟩⟩⟩,fun h3=> ?_⟩,fun h2=>⟨fun h3=> ?_,fun h3=> ?_⟩⟩⟩
 · have:meas b=(0,0,4):=by unfold meas;rw [if_pos (by omega)]
   rw [this];rfl
 · have:meas b=(0,0,6):=by unfold meas;rw [hd,if_neg (by omega),if_neg (by omega),if_pos (by omega)]
   rw [this];rfl
 · have:meas b=(0,0,4):=by unfold meas;rw [hd,if_neg (by omega),if_neg (by omega),if_neg (by omega),if_pos (by omega)]
   rw [this];rfl
 · obtain ⟨m,hxm⟩:∃m:Nat,(x.toNat:Int) -128=(m:Int):=⟨x.toNat-128,by omega⟩
   have hm3:1≤m∧m≤3:=by omega
   have ht2:((2:Int)+ (m:Int)).toNat=2+m:=by omega
   have hll:(List.drop 2 (List.take (2+m) b)).length=m:=by simp;omega
   rw [hxm,ht2,hll];generalize hL:List.drop 2 (List.take (2+m) b)=L at*;have hmq:∀v,beN L=v→meas b=(if v<minLen m then (0,0,6) else measE b (2+m) v):=fun v hv=>by
    have hLx:(b.drop 2).take m=L:=by rw [←hL,BI];congr 1;omega
    unfold meas;rw [hd,show x.toNat-128=m by omega,if_neg (by omega),if_neg (by omega),if_neg (by omega),if_neg (by omega),hLx,hv]
   rcases (by omega:m=1∨m=2∨m=3) with rfl|rfl|rfl
   · refine q4l (fun i=>[(5,rI (beN (L.take i))),(39,.raw (.int .i64 ((i:Nat):Int)))]) (1) (fun j=>(fun _=>true) j=true) (by first|decide|simp) (fun i=>rfl) ?_ fun i hi hall=> ?_
     · (with_reducible refine sxE ?_<;>try exact True.intro)
       all_goals (try rfl)
     have hwr:=wsx i (by omega)
     refine gQ ?_;have bad:i< (1)→(fun _=>true) i=false→allN (1) (fun _=>true)=false:=fun hlt hv=>q1P hlt hv;have fin:¬i< (1)→allN (1) (fun _=>true)=true:=fun h=>q1U fun j hj=>hall j (by omega)
     try dsimp only at bad fin hall
     refine ⟨fun hlt=>⟨⟨by omega,by omega⟩,?_⟩,fun hge=> ?_⟩
     · have hv:=q7g (L.take i);have hv2:256^ (L.take i).length≤256^ 6:=Bp (by decide) (by simp;omega)
       have hc:(L.getD i Ty.u8.dflt).toNat<256:=B1 _;have e1:IntKind.i64.wrap ((beN (L.take i):Int)*2^ min 8 64)=((beN (L.take i)*256:Nat):Int):=by
        rw [show ((beN (L.take i):Int)*2^ min 8 64)=((beN (L.take i)*256:Nat):Int) by simp]
        exact wrapi (by omega)
       have e2:IntKind.i64.wrap ((L.getD i Ty.u8.dflt).toNat:Int)=(((L.getD i Ty.u8.dflt).toNat:Nat):Int):=wrapi (by omega)
       have e3:=q9t (beN (L.take i)) (L.getD i Ty.u8.dflt).toNat (by omega) hc
       have e4:=q5W L i (by omega)
       rw [e1,e2];refine ⟨hlt,trivial,⟨[],rfl⟩,?_⟩
       with_reducible refine sx1 hwr ?_
       rw [e4];exact congrArg (Value.int .i64) e3
     rw [Aa (by omega:L.length≤i)]
     have hv:=q7g L;rw [hll] at hv;have hv3:beN L<16777216:=by omega
     have w1:IntKind.i64.wrap ((b.length:Int) - (2+ ((1:Nat):Int)))=(b.length:Int) - (2+ ((1:Nat):Int)):=wrapi (by omega)
     have w2:IntKind.i64.wrap (2+ ((1:Nat):Int)+ (beN L:Int))=((2+1+beN L:Nat):Int):=by rw [wrapi (by omega)];omega
     rw [w1,w2];refine ⟨by decide,fun q=> ?_,fun q=>⟨fun q2=> ?_,fun q2=> ?_⟩⟩
     · rw [hmq _ rfl,if_pos (by simp only [minLen];omega)];rfl
     · rw [hmq _ rfl,if_neg (by simp only [minLen];omega)];unfold measE;rw [if_pos (by omega)];rfl
     rw [hmq _ rfl,if_neg (by simp only [minLen];omega)];unfold measE;rw [if_neg (by omega)];rfl
   · refine q4l (fun i=>[(5,rI (beN (L.take i))),(39,.raw (.int .i64 ((i:Nat):Int)))]) (2) (fun j=>(fun _=>true) j=true) (by first|decide|simp) (fun i=>rfl) ?_ fun i hi hall=> ?_
     · (with_reducible refine sxE ?_<;>try exact True.intro)
       all_goals (try rfl)
     have hwr:=wsx i (by omega)
     refine gQ ?_;have bad:i< (2)→(fun _=>true) i=false→allN (2) (fun _=>true)=false:=fun hlt hv=>q1P hlt hv;have fin:¬i< (2)→allN (2) (fun _=>true)=true:=fun h=>q1U fun j hj=>hall j (by omega)
     try dsimp only at bad fin hall
     refine ⟨fun hlt=>⟨⟨by omega,by omega⟩,?_⟩,fun hge=> ?_⟩
     · have hv:=q7g (L.take i);have hv2:256^ (L.take i).length≤256^ 6:=Bp (by decide) (by simp;omega)
       have hc:(L.getD i Ty.u8.dflt).toNat<256:=B1 _;have e1:IntKind.i64.wrap ((beN (L.take i):Int)*2^ min 8 64)=((beN (L.take i)*256:Nat):Int):=by
        rw [show ((beN (L.take i):Int)*2^ min 8 64)=((beN (L.take i)*256:Nat):Int) by simp]
        exact wrapi (by omega)
       have e2:IntKind.i64.wrap ((L.getD i Ty.u8.dflt).toNat:Int)=(((L.getD i Ty.u8.dflt).toNat:Nat):Int):=wrapi (by omega)
       have e3:=q9t (beN (L.take i)) (L.getD i Ty.u8.dflt).toNat (by omega) hc
       have e4:=q5W L i (by omega)
       rw [e1,e2];refine ⟨hlt,trivial,⟨[],rfl⟩,?_⟩
       with_reducible refine sx1 hwr ?_
       rw [e4];exact congrArg (Value.int .i64) e3
     rw [Aa (by omega:L.length≤i)]
     have hv:=q7g L;rw [hll] at hv;have hv3:beN L<16777216:=by omega
     have w1:IntKind.i64.wrap ((b.length:Int) - (2+ ((2:Nat):Int)))=(b.length:Int) - (2+ ((2:Nat):Int)):=wrapi (by omega)
     have w2:IntKind.i64.wrap (2+ ((2:Nat):Int)+ (beN L:Int))=((2+2+beN L:Nat):Int):=by rw [wrapi (by omega)];omega
     rw [w1,w2];refine ⟨by decide,fun q=> ?_,fun q=>⟨fun q2=> ?_,fun q2=> ?_⟩⟩
     · rw [hmq _ rfl,if_pos (by simp only [minLen];omega)];rfl
     · rw [hmq _ rfl,if_neg (by simp only [minLen];omega)];unfold measE;rw [if_pos (by omega)];rfl
     rw [hmq _ rfl,if_neg (by simp only [minLen];omega)];unfold measE;rw [if_neg (by omega)];rfl
   refine q4l (fun i=>[(5,rI (beN (L.take i))),(39,.raw (.int .i64 ((i:Nat):Int)))]) (3) (fun j=>(fun _=>true) j=true) (by first|decide|simp) (fun i=>rfl) ?_ fun i hi hall=> ?_
   · (with_reducible refine sxE ?_<;>try exact True.intro)
     all_goals (try rfl)
   have hwr:=wsx i (by omega)
   refine gQ ?_;have bad:i< (3)→(fun _=>true) i=false→allN (3) (fun _=>true)=false:=fun hlt hv=>q1P hlt hv;have fin:¬i< (3)→allN (3) (fun _=>true)=true:=fun h=>q1U fun j hj=>hall j (by omega)
   try dsimp only at bad fin hall
   refine ⟨fun hlt=>⟨⟨by omega,by omega⟩,?_⟩,fun hge=> ?_⟩
   · have hv:=q7g (L.take i);have hv2:256^ (L.take i).length≤256^ 6:=Bp (by decide) (by simp;omega)
     have hc:(L.getD i Ty.u8.dflt).toNat<256:=B1 _;have e1:IntKind.i64.wrap ((beN (L.take i):Int)*2^ min 8 64)=((beN (L.take i)*256:Nat):Int):=by
      rw [show ((beN (L.take i):Int)*2^ min 8 64)=((beN (L.take i)*256:Nat):Int) by simp]
      exact wrapi (by omega)
     have e2:IntKind.i64.wrap ((L.getD i Ty.u8.dflt).toNat:Int)=(((L.getD i Ty.u8.dflt).toNat:Nat):Int):=wrapi (by omega)
     have e3:=q9t (beN (L.take i)) (L.getD i Ty.u8.dflt).toNat (by omega) hc
     have e4:=q5W L i (by omega)
     rw [e1,e2];refine ⟨hlt,trivial,⟨[],rfl⟩,?_⟩
     with_reducible refine sx1 hwr ?_
     rw [e4];exact congrArg (Value.int .i64) e3
   rw [Aa (by omega:L.length≤i)]
   have hv:=q7g L;rw [hll] at hv;have hv3:beN L<16777216:=by omega
   have w1:IntKind.i64.wrap ((b.length:Int) - (2+ ((3:Nat):Int)))=(b.length:Int) - (2+ ((3:Nat):Int)):=wrapi (by omega)
   have w2:IntKind.i64.wrap (2+ ((3:Nat):Int)+ (beN L:Int))=((2+3+beN L:Nat):Int):=by rw [wrapi (by omega)];omega
   rw [w1,w2];refine ⟨by decide,fun q=> ?_,fun q=>⟨fun q2=> ?_,fun q2=> ?_⟩⟩
   · rw [hmq _ rfl,if_pos (by simp only [minLen];omega)];rfl
   · rw [hmq _ rfl,if_neg (by simp only [minLen];omega)];unfold measE;rw [if_pos (by omega)];rfl
   rw [hmq _ rfl,if_neg (by simp only [minLen];omega)];unfold measE;rw [if_neg (by omega)];rfl
 · have:meas b=(0,0,6):=by unfold meas;rw [hd,if_neg (by omega),if_neg (by omega),if_pos (by omega)]
   rw [this];rfl
 · have:meas b=(0,0,4):=by unfold meas;rw [hd,if_neg (by omega),if_pos (by omega)];unfold measE;rw [if_pos (by omega)]
   rw [this];rfl
 have:meas b=(2,2+x.toNat,0):=by unfold meas;rw [hd,if_neg (by omega),if_pos (by omega)];unfold measE;rw [if_neg (by omega)]
 rw [this];rfl
theorem q7J(n:Nat):(byteOf (n:Int)).toNat=n%256:=by
 have h:=q0T (n:Int);have:IntKind.u8.wrap (n:Int)=((n%256:Nat):Int):=by simp [IntKind.wrap,IntKind.bits,IntKind.signed]
 rw [this] at h;unfold byteOf;rw [this]
 exact_mod_cast h
def takeE(tag:UInt8)(r:List UInt8):Nat:=if r.length=0 then 4 else if r.getD 0 0≠tag then 6 else (meas r).2.2
def takeC(r:List UInt8):List UInt8:=(r.take (meas r).2.1).drop (meas r).1
def takeN(r:List UInt8):Nat:=(meas r).2.1
theorem z6b{r:List UInt8}(h:(meas r).2.2=0):2≤(meas r).1∧(meas r).1≤(meas r).2.1∧(meas r).2.1≤r.length:=by
 have key:∀a n,(measE r a n).2.2=0→2≤a→a≤r.length→2≤(measE r a n).1∧(measE r a n).1≤(measE r a n).2.1∧(measE r a n).2.1≤r.length:=by
  intro a n h1 h2 h3;unfold measE at h1⊢;split at h1
  · cases h1
  rename_i hh;rw [if_neg hh];simp only;omega
 unfold meas at h⊢
 repeat' split at h
 all_goals first| (cases h;done) |skip
 · rename_i g1 g2;rw [if_neg g1,if_pos g2];exact key _ _ h (by omega) (by omega)
 rename_i g1 g2 g3 g4 g5;rw [if_neg g1,if_neg g2,if_neg g3,if_neg g4,if_neg g5];exact key _ _ h (by omega) (by omega)
theorem z8t{t:UInt8}{r:List UInt8}(h:takeE t r=0):(meas r).2.2=0:=by
 unfold takeE at h;split at h
 · cases h
 split at h
 · cases h
 exact h
theorem q4w{t:UInt8}{r:List UInt8}(h:takeE t r=0):takeN r≤r.length:=(z6b (z8t h)).2.2
theorem q4z(r:List UInt8):(takeC r).length≤r.length:=by unfold takeC;rw [Al,Ak];omega

abbrev PR(α:Type):=List UInt8→Except Nat (α×Nat)
def rdP{α:Type}(tag:UInt8)(dec:List UInt8→Option α):PR α:=fun r=>
 if takeE tag r=0 then match dec (takeC r) with
  |some v=>.ok (v,takeN r)
  |none=>.error 6
 else .error (takeE tag r)
def allP{α:Type}(p:PR α)(c:List UInt8):Except Nat α:=match p c with
 |.error e=>.error e
 |.ok (v,m)=>if m<c.length then .error 6 else .ok v
def inP{α:Type}(tag:UInt8)(p:PR α):PR α:=fun r=>
 if takeE tag r=0 then match allP p (takeC r) with
  |.ok v=>.ok (v,takeN r)
  |.error e=>.error e
 else .error (takeE tag r)
def tagB(n:Nat):UInt8:=byteOf (160+n)
def nextB(n:Nat)(r:List UInt8):Bool:=decide (r.length≠0) && decide (r.getD 0 0=tagB n)
def needP{α:Type}(n:Nat)(p:PR α):PR α:=fun r=>
 if nextB n r then inP (tagB n) p r else .error (if r.length=0 then 4 else 6)
def bindP{α β:Type}(p:PR α)(f:α→PR β):PR β:=fun r=>match p r with
 |.error e=>.error e
 |.ok (v,k)=>match f v (r.drop k) with
  |.error e=>.error e
  |.ok (u,m)=>.ok (u,k+m)
def retP{α:Type}(v:α):PR α:=fun _=>.ok (v,0)
theorem q6b{t:UInt8}{c:List UInt8}(h:c.length≤16777215):elemS t [c]=tlv t c:=by
 unfold elemS;simp only [AL,Bv,Ah];rw [if_pos h]
theorem z7Z{n:Nat}{b:List UInt8}(hn:n≤30)(h:b.length≤16777215):wrapS 160 n b=if b= [] then [] else tlv (tagB n) b:=by
 unfold wrapS
 by_cases hb:b= []
 · rw [if_neg (fun q=>q.2.2 hb),if_pos hb]
 rw [if_pos ⟨by omega,by omega,hb⟩,if_neg hb,q6b h];rfl
@[go_sem] abbrev rdr(b:List UInt8)(n:Nat):SObj:=.cells 111 [.isl .u8 b,rI n,.raw (.bool true)]
theorem z0g(b:List UInt8)(n:Nat)(hn:n≤b.length):PE Tryz.prog 98 [.ptr 0 0] [rdr b n] (.ret (.isl .u8 (b.drop n))) [rdr b n]:=by
 refine q0g (Ag _) ?_;refine rQ fi98 ?_;refine ⟨⟨by omega,hn,Ag _⟩,?_⟩
 rw [AE]
theorem q7b(b:List UInt8)(n:Nat)(hn:n≤b.length):PE Tryz.prog 67 [.ptr 0 0] [rdr b n] (.ret (rI ((b.length-n:Nat):Int))) [rdr b n]:=by
 refine q0g (Ag _) ?_;refine rQ fi67 ?_;refine eQ [0] (z0g b n hn) ?_;rw [Al]
theorem z8r(b:List UInt8)(n:Nat)(hn:n≤b.length):PE Tryz.prog 35 [.ptr 0 0] [rdr b n] (.ret (rI (if n<b.length then 5 else 0))) [rdr b n]:=by
 refine q0g (Ag _) ?_;refine rQ fi35 ?_;refine eQ [0] (q7b b n hn) ?_;refine ⟨fun h=> ?_,fun h=> ?_⟩
 · rw [if_pos (by omega)]
 rw [if_neg (by omega)]
theorem z7w(b:List UInt8):PE Tryz.prog 62 [.isl .u8 b] [] (.ret (.ptr 0 0)) [rdr b 0]:=by
 refine q0g (Aj _) ?_;refine rQ fi62 ?_;trivial
theorem z0V(b:List UInt8):PE Tryz.prog 101 [.isl .u8 b] [] (.ret (.tup [.ptr 0 0,rB true])) [rdr b 0]:=by
 refine q0g (Aj _) ?_;refine rQ fi101 ?_;refine eQ [] (z7w b) ?_;trivial
theorem z3p(tag:UInt8)(b:List UInt8)(n:Nat)(hn:n≤b.length)(hb:b.length≤1099511627776):
 PE Tryz.prog 133 [.ptr 0 0,.raw (.int .u8 tag.toNat)] [rdr b n] (.ret (.tup [.isl .u8 (if takeE tag (b.drop n)=0 then takeC (b.drop n) else []),rI (takeE tag (b.drop n))])) [rdr b (if takeE tag (b.drop n)=0 then n+takeN (b.drop n) else n)]:=by
 have hr:=z0g b n hn;have hlr:(b.drop n).length=b.length-n:=Al;have hm:=z6K (b.drop n) (by omega)
 have hok:= @q4w tag (b.drop n);generalize hR:b.drop n=r at*;have hE:takeE tag r=if r.length=0 then 4 else if r.getD 0 0≠tag then 6 else (meas r).2.2:=rfl;refine q0g (Ag _) ?_;refine rQ fi133 ?_;refine eQ [0] (hr) ?_;refine ⟨fun h=> ?_,fun h=> ?_⟩
 · rw [if_pos (by omega)] at hE
   rw [hE];exact ⟨⟨rfl,rfl⟩,rfl⟩
 rw [if_neg (by omega)] at hE
 refine ⟨by omega,fun h2=> ?_,fun h2=> ?_⟩
 · rw [if_pos (fun e=>h2 (by subst e;rfl))] at hE
   rw [hE];exact ⟨⟨rfl,rfl⟩,rfl⟩
 have:r.getD 0 0=tag:=by
  apply BX.1;have:((r.getD 0 Ty.u8.dflt).toNat:Int)=tag.toNat:=h2
  exact_mod_cast this
 rw [if_neg (by simpa using this)] at hE
 refine q0a hm ?_;unfold measV;refine gQ ?_;refine ⟨fun h3=> ?_,fun h3=> ?_⟩
 · have h3':¬(meas r).2.2=0:=by omega
   rw [hE,if_neg h3',if_neg h3'];exact ⟨⟨rfl,rfl⟩,rfl⟩
 have h3':(meas r).2.2=0:=by omega
 have hk:=z6b h3';rw [hE,if_pos h3',if_pos h3',wrapi (by omega),h3']
 exact ⟨⟨by omega,hk.2.1,Ag _,hk.2.2⟩,⟨rfl,rfl⟩,congrArg (Value.int .i64) (by unfold takeN;omega)⟩
theorem q5U(g:Nat)(tag:UInt8)(b:List UInt8)(n:Nat)(hn:n≤b.length)(hb:b.length≤1099511627776)(v:SV)(right:Bool)(hg:PC Tryz.prog g [.isl .u8 (takeC (b.drop n))] (.tup [v,rB right]))(hv:∃u,(v= .raw u)∨∃xs,v= .isl .u8 xs):
 PE Tryz.prog 103 [.ptr 0 0,.raw (.int .u8 tag.toNat),.fn g [] []] [rdr b n] (.ret (if takeE tag (b.drop n)=0 then (if right then .tup [v,rI 0] else .tup [.raw (.int .i64 0),rI 6]) else .tup [.raw (.int .i64 0),rI (takeE tag (b.drop n))])) [rdr b (if takeE tag (b.drop n)=0∧right=true then n+takeN (b.drop n) else n)]:=by
 have ht:=z3p tag b n hn hb;generalize takeE tag (b.drop n)=e at*;generalize takeC (b.drop n)=c at*;generalize takeN (b.drop n)=k at*;refine q0g (Ag _) ?_;refine rQ fi103 ?_;refine eQ [0] (ht) ?_;refine ⟨fun h=> ?_,fun h=> ?_⟩
 · have h':¬e=0:=by omega
   simp only [if_neg h',h',false_and,if_false]
   with_reducible refine sxE ?_;trivial
 obtain rfl:e=0:=by omega
 simp only [true_and,if_true];refine q0a hg ?_;obtain ⟨u,rfl| ⟨xs,rfl⟩⟩:=hv
 · cases right
   · refine uQ 600 _ ?_;simp (maxSteps:=3000000) only [A8,if_false,go_sem,↓zA,↓reduceIte,↓reduceDIte] <;>try simp only [zB]
   refine gQ ?_;trivial
 cases right
 · refine uQ 600 _ ?_;simp (maxSteps:=3000000) only [A8,if_false,go_sem,↓zA,↓reduceIte,↓reduceDIte] <;>try simp only [zB]
 refine gQ ?_;trivial
theorem q7A(g:Nat)(tag:UInt8)(b:List UInt8)(n:Nat)(hn:n≤b.length)(hb:b.length≤1099511627776)(v:SV)(right:Bool)(hg:PC Tryz.prog g [.isl .u8 (takeC (b.drop n))] (.tup [v,rB right]))(hv:∃u,(v= .raw u)∨∃xs,v= .isl .u8 xs):
 PE Tryz.prog 131 [.ptr 0 0,.raw (.int .u8 tag.toNat),.fn g [] []] [rdr b n] (.ret (if takeE tag (b.drop n)=0 then (if right then .tup [v,rI 0] else .tup [.isl .u8 [],rI 6]) else .tup [.isl .u8 [],rI (takeE tag (b.drop n))])) [rdr b (if takeE tag (b.drop n)=0∧right=true then n+takeN (b.drop n) else n)]:=by
 have ht:=z3p tag b n hn hb;generalize takeE tag (b.drop n)=e at*;generalize takeC (b.drop n)=c at*;generalize takeN (b.drop n)=k at*;refine q0g (Ag _) ?_;refine rQ fi131 ?_;refine eQ [0] (ht) ?_;refine ⟨fun h=> ?_,fun h=> ?_⟩
 · have h':¬e=0:=by omega
   simp only [if_neg h',h',false_and,if_false]
   with_reducible refine sxE ?_;trivial
 obtain rfl:e=0:=by omega
 simp only [true_and,if_true];refine q0a hg ?_;obtain ⟨u,rfl| ⟨xs,rfl⟩⟩:=hv
 · cases right
   · refine uQ 600 _ ?_;simp (maxSteps:=3000000) only [A8,if_false,go_sem,↓zA,↓reduceIte,↓reduceDIte] <;>try simp only [zB]
   refine gQ ?_;trivial
 cases right
 · refine uQ 600 _ ?_;simp (maxSteps:=3000000) only [A8,if_false,go_sem,↓zA,↓reduceIte,↓reduceDIte] <;>try simp only [zB]
 refine gQ ?_;trivial
theorem u8w(x:Int):IntKind.u8.wrap x=x%256:=by simp [IntKind.wrap,IntKind.bits,IntKind.signed]
theorem j2q(n:Nat):UInt8.ofNat (IntKind.u8.wrap ((n:Int).tmod 256)).toNat=byteOf n:=by
 unfold byteOf;rw [u8w,u8w,Ar (by omega),Int.emod_emod_of_dvd _ (by decide)]
theorem j4K(n:Nat)(k:Nat):(n:Int).tdiv k=((n / k:Nat):Int):=by
 rw [Bc (by omega)];rfl
theorem z8K(n:Nat)(k:Nat):(n:Int).fdiv k=((n / k:Nat):Int):=by
 rw [AX _ (by omega)];rfl
theorem z5b(t:UInt8)(l:List (List UInt8)):elemS t [l.flatten]=elemS t l:=by unfold elemS;simp
theorem z7g{v:Int}{n k:Nat}(h:k<n):(numS v n).take (k+1)=(numS v n).take k++ [byteAt v (n-1-k)]:=by
 rw [q2w (d:=0) (by simp [numS];omega)]
 congr 2;rw [Ab,Ae (by simp [numS];omega)]
 simp [numS]
def qN(n k:Nat):Nat:=n / 256^ k
theorem j2W(n k:Nat):qN n (k+1)=qN n k / 256:=by unfold qN;rw [Cg,Nat.div_div_eq_div_mul]
theorem q6h(n k:Nat):restN (n:Int) k=(qN n k:Int):=by
 induction k with
 |zero=>simp [restN,qN]
 |succ k ih=>rw [restN,ih,show (256:Int)=((256:Nat):Int) from rfl,z8K,j2W]
theorem pow28(k:Nat):(2:Int) ^ (8*k)=((256^ k:Nat):Int):=by
 rw [show (256:Nat)=2^ 8 from rfl,←Nat.pow_mul];push_cast;rfl
theorem q7y(n k:Nat)(hk:k≤8):byteAt (n:Int) k=byteOf (qN n k:Int):=by
 unfold byteAt;rw [A5 (by omega),pow28,z8K];rfl
theorem q7d(v:Int)(m:Nat):numS v (m+1)=byteAt v m :: numS v m:=by
 apply As
 · simp [numS]
 intro j h1 h2;cases j with
 |zero=>simp [numS]
 |succ j=>
  simp only [numS,AA,Ax,List.getElem_cons_succ];congr 1;omega
def inR(v lo hi:Int):Bool:=decide (lo≤v) && decide (v≤hi)
theorem z6h{xs ys:List UInt8}:strOf xs=strOf ys ↔ xs=ys:=by
 constructor
 · intro h;have:=congrArg (fun s:ByteArray=>s.data.toList) h;simpa [strOf] using this
 rintro rfl;rfl
end Go.Proofs.YtikapabgggphpaaGreatDoor
