/- Contracts: the encoding of integers, times, strings, keys. -/
import Derived.Test.YthbcodbcndiapaaGreatDoorP9
set_option linter.all false
namespace Go.Proofs.YthbcodbcndiapaaGreatDoor
open Go Go.Sx Go.Proofs
set_option maxRecDepth 100000
set_option maxHeartbeats 4000000
def byteAt(v:Int)(k:Nat):UInt8:=byteOf (v.fdiv (2^ min (8*k) 64))
def numN(v:Int)(size i:Nat):List UInt8:=(List.range size).map λj=>if size-1-j<i then byteAt v (size-1-j) else 0
def numS(v:Int)(size:Nat):List UInt8:=(List.range size).map λj=>byteAt v (size-1-j)
def z9e(v:Int)(size:Nat):List.replicate size (0:UInt8)=numN v size 0:=by
 apply Av
 . simp [numN]
 intro j h1 h2;simp [numN]
def j2G(v:Int)(size:Nat):numN v size size=numS v size:=by
 apply Av
 . simp [numN,numS]
 intro j a h2;simp [numN,numS];simp [numN] at a;intro h;omega
variable {v:Int}{i:Nat}
theorem j4A{size:Nat}(h:i<size):(numN v size i).set (size-1-i) (byteAt v i)=numN v size (i+1):=by
 apply Av
 . simp [numN]
 intro j h1 b;simp [numN] at b;simp only [numN,Bf,AJ,AG];split
 . rename_i e;have:size-1-j=i:=by omega
   rw [this,if_pos (by omega)]
 rename_i e;by_cases a:size-1-j<i
 . rw [if_pos a,if_pos (by omega)]
 rw [if_neg a,if_neg (by omega)]
def z5P(v:Int)(size:Nat)(hs:size<=64):PC Tryz.prog 114 [rI v,rI size] (.isl .u8 (numS v size)):=by
 refine q0g rfl rfl ?_;refine rQ fi114 ?_;refine ⟨by omega,?_⟩;refine q0m (ι:=Nat) (λi=>[(11,rI i)]) (λi=>[.row .u8 (numN v size i)]) (λi=>size-i) (λi=>i<=size) 0 (Aj _) (by rw [<-z9e];rfl) ?_ ?_
 . with_reducible refine sxE ?_;trivial
 intro i hi;have f:IntKind.i64.wrap (8* (i:Int))=((8*i:Nat):Int):=by rw [wrapi (by omega)];rfl
 have d:=wsx i (by omega);have b:(numN v size i).length=size:=by simp [numN]
 by_cases a:i<size
 . have e:IntKind.i64.wrap ((size:Int) -1)=((size-1:Nat):Int):=by rw [wrapi (by omega)];omega
   have j:IntKind.i64.wrap (((size-1:Nat):Int) - (i:Int))=((size-1-i:Nat):Int):=by rw [wrapi (by omega)];omega
   refine gy4 e j f b ?_;refine ⟨λ_=>⟨by omega,⟨by omega,by omega⟩,⟨by omega,q0U _⟩,i+1,a,by dsimp only;omega,?_,?_⟩,λh=>absurd a h⟩
   . dsimp only;rw [<-j4A a,Nat.zero_add];rfl
   with_reducible refine sx1 d ?_;trivial
 refine uQ 600 _ ?_;with_reducible refine sx1 b ?_
 refine ⟨λh=>absurd h a,λ_=>⟨⟨by omega,by omega⟩,?_⟩⟩;obtain rfl:i=size:=by omega
 rw [j2G,Aa (by simp [numS])]
def q2R(tag:UInt8)(n:Int)(b:n=tag.toNat)(parts:List (List UInt8))(a:parts.length<=1125899906842624):PC Tryz.prog 110 [.raw (.int .u8 n),.isl (.slice .u8) parts] (.isl .u8 (elemS tag parts)):=by subst b;exact j1p tag parts a

def restN(v:Int):Nat->Int
 |0=>v
 |k+1=>(restN v k).fdiv 256
def firstN(n:Nat)(q:Nat->Bool):Option Nat:=(List.range n).find? q
variable {n:Nat}{q:Nat->Bool}
theorem q5i(b:i<n)(e:q i=true)(d:∀j,j<i->q j=false):firstN n q=some i:=by unfold firstN;rw [List.find?_range_eq_some];exact ⟨e,by simpa using b,λj a=>by rw [d j a];rfl⟩
def q9a(h:firstN n q=some i):i<n/\q i=true/\∀j,j<i->q j=false:=by unfold firstN at h;rw [List.find?_range_eq_some] at h;exact ⟨by simpa using h.2.1,h.1,λj a=>by simpa using h.2.2 j a⟩
def oneB(v:Int)(k:Nat):Bool:=decide (-128<=restN v k) && decide (restN v k<=127)
def intSz(v:Int):Nat:=1+ (firstN 9 (oneB v)).getD 0
def intS(v:Int):List UInt8:=if -4611686018427387904<=v/\v<=4611686018427387904 then elemS 2 [numS v (intSz v)] else []
def fdiv256(r:Int):r.fdiv 256=r / 256:=BO r (by decide)
def rest8(h1: -4611686018427387904<=v)(h2:v<=4611686018427387904):oneB v 8=true:=by simp only [oneB,restN,fdiv256,Ai,decide_eq_true_eq];omega
theorem q3c(v:Int):PC Tryz.prog 39 [rI v] (.isl .u8 (intS v)):=by
 refine q0g rfl rfl ?_;refine rQ fi39 ?_<;>try with_reducible exact True.intro
 repeat' (first
  | (with_reducible refine And.intro ?_ ?_)
  | (with_reducible intro _))
 all_goals (skip)
 . unfold intS;rw [if_neg (by omega)]
 rotate_left
 . unfold intS;rw [if_neg (by omega)]
 rename_i h1 h2;have m:=rest8 (v:=v) (by omega) (by omega);refine q0m (ι:=Nat) (λk=>[(3,rI ((1+k:Nat):Int)),(4,rI (restN v k))]) (λ_=>[]) (λk=>9-k) (λk=>k<=8/\∀j,j<k->oneB v j=false) 0 ⟨by omega,λj o=>absurd o (by omega)⟩ rfl ?_ ?_
 . simp (maxSteps:=3000000) only [restN,go_sem,↓zA,↓reduceIte,↓reduceDIte] <;>try simp only [zB]
   rfl
 rintro k ⟨hk,a⟩;have d:IntKind.i64.wrap (((1+k:Nat):Int)+1)=((1+ (k+1):Nat):Int):=by rw [wrapi (by omega)];omega
 refine gy1 d ?_;have h:(2:Int) ^ min 8 64=256:=by decide
 refine ⟨λu=>⟨λs=> ?_,λs=> ?_⟩,λu=> ?_⟩
 . have b:oneB v k=false:=by simp [oneB];omega
   have f:k≠8:=λe=>by subst e;rw [m] at b;cases b
   refine ⟨k+1,⟨by omega,q1o a b⟩,by dsimp only;omega,rfl,?_⟩;simp (maxSteps:=3000000) only [restN,h,go_sem,↓zA,↓reduceIte,↓reduceDIte] <;>try simp only [zB]
 . have b:oneB v k=true:=by simp [oneB];omega
   have x:intSz v=1+k:=by unfold intSz;rw [q5i (by omega) b a];rfl
   refine cQ (z5P v (1+k) (by omega)) ?_;refine q0x 0 ?_;with_reducible refine sxE ?_
   refine cQ (q2R 2 2 rfl _ (by simp)) ?_;unfold intS;rw [if_pos (by omega),x]
 have b:oneB v k=false:=by simp [oneB];omega
 have f:k≠8:=λe=>by subst e;rw [m] at b;cases b
 refine ⟨k+1,⟨by omega,q1o a b⟩,by dsimp only;omega,rfl,?_⟩;simp (maxSteps:=3000000) only [restN,h,go_sem,↓zA,↓reduceIte,↓reduceDIte] <;>try simp only [zB]
theorem z1C(b:List UInt8):PC Tryz.prog 34 [.isl .u8 b] (.isl .u8 (elemS 4 [b])):=by
 refine q0g rfl rfl ?_;refine rQ fi34 ?_;refine q0x 0 ?_;with_reducible refine sxE ?_
 refine cQ (q2R 4 4 rfl _ (by simp)) ?_;trivial
def timeS(t:Int):List UInt8:=if 0<=t/\t<=1099511627776 then elemS 24 [numS t 6] else []
def k0r(t:Int):PC Tryz.prog 40 [rI t] (.isl .u8 (timeS t)):=by
 refine q0g rfl rfl ?_;refine rQ fi40 ?_;refine ⟨λa=>⟨λb=> ?_,λb=> ?_⟩,λa=> ?_⟩
 . unfold timeS;rw [if_neg (by omega)]
 . refine q0a (z5P t 6 (by omega)) ?_;refine gQ ?_;refine q0x 0 ?_;with_reducible refine sxE ?_
   refine cQ (q2R 24 24 rfl _ (by simp)) ?_;unfold timeS;rw [if_pos (by omega)]
 unfold timeS;rw [if_neg (by omega)]
theorem q4K(l:List (List UInt8))(a:l.length<=1125899906842624):PC Tryz.prog 42 [.isl (.slice .u8) l] (.isl .u8 (elemS 48 l)):=by refine q0g rfl rfl ?_;refine rQ fi42 ?_;refine cQ (q2R 48 48 rfl _ a) ?_;trivial
def wrapS(tag n:Int)(b:List UInt8):List UInt8:=if 0<=n/\n<=30/\b≠ [] then elemS (byteOf (tag+n)) [b] else []
def z3h(tag n:Int)(b:List UInt8)(ht:0<=tag/\tag<=1000):PC Tryz.prog 109 [rI tag,rI n,.isl .u8 b] (.isl .u8 (wrapS tag n b)):=by
 refine q0g rfl rfl ?_;refine rQ fi109 ?_;refine ⟨λd=>⟨λf=>⟨λa=> ?_,λa=> ?_⟩,λf=> ?_⟩,λd=> ?_⟩
 . unfold wrapS;rw [if_neg (λh=>h.2.2 (AH.1 (by omega)))]
 . refine q0x 0 ?_;with_reducible refine sxE ?_
   refine q0a (q2R (byteOf (tag+n)) _ ?_ _ (by simp)) ?_
   . rw [wrapi (by omega)];exact (q0U _).symm
   refine gQ ?_;unfold wrapS;rw [if_pos ⟨by omega,by omega,λe=>a (by rw [e];rfl)⟩]
 . unfold wrapS;rw [if_neg (by omega)]
 unfold wrapS;rw [if_neg (by omega)]
def q2d(n:Int)(b:List UInt8):PC Tryz.prog 33 [rI n,.isl .u8 b] (.isl .u8 (wrapS 160 n b)):=by refine q0g rfl rfl ?_;refine rQ fi33 ?_;refine cQ (z3h 160 n b (by omega)) ?_;trivial
theorem z2o(s:ByteArray)(hs:s.size<=140737488355328):PC Tryz.prog 108 [rS s] (.isl .u8 (elemS 27 [s.data.toList])):=by
 refine q0g rfl rfl ?_;refine q2g fi108 (q0p mixed 8 _ ?_);simp (maxSteps:=3000000) only [ir108,go_sem,↓zA,↓reduceIte,↓reduceDIte] <;>try simp only [zB]
 have hl:(bytesOf s).length=s.size:=by simp [bytesOf]
 refine q1j 0 rfl rfl (by omega) ?_ ?_ ?_
 . with_reducible refine sxE ?_;trivial
 . with_reducible refine sxE ?_
   omega
 with_reducible refine sxE ?_
 refine gQ ?_;refine q0x 1 ?_;with_reducible refine sxE ?_
 rw [Aa (by omega)];refine cQ (q2R 27 27 rfl _ (by simp)) ?_;rfl
def fullAt(l:List (List UInt8))(j:Nat):Bool:=decide (l.getD j (Ty.slice .u8).dflt≠ [])
def wholeS(l:List (List UInt8)):List UInt8:=if allN l.length (fullAt l) then elemS 48 l else []
theorem z7K(l:List (List UInt8))(s:l.length<=1125899906842624):PC Tryz.prog 113 [.isl (.slice .u8) l] (.isl .u8 (wholeS l)):=by
 refine q0g rfl rfl ?_;refine rQ fi113 ?_;refine q1p (λi=>[(7,.raw (.int .i64 ((i:Nat):Int)))]) (l.length) (λj=>(fullAt l) j=true) (by first|decide|simp) (λi=>rfl) ?_ λi hi a=> ?_
 . (with_reducible refine sxE ?_<;>try exact True.intro)
   all_goals (try rfl)
 have k:=wsx i (by omega);refine gQ ?_;have d:i< (l.length)->(fullAt l) i=false->allN (l.length) (fullAt l)=false:=λb o=>q0u b o;have fin:¬i< (l.length)->allN (l.length) (fullAt l)=true:=λh=>q0v λj hj=>a j (by omega);try dsimp only at d fin a
 refine ⟨λb=>⟨⟨by omega,b⟩,λm=> ?_,λm=> ?_⟩,λf=>q0a (q4K l s) ?_⟩
 . have:fullAt l i=false:=by simp only [fullAt,decide_eq_false_iff_not,ne_eq,Classical.not_not];exact AH.1 (by omega)
   unfold wholeS;rw [d b this];rfl
 . refine ⟨b,q1o a ?_,⟨_,rfl⟩,?_⟩
   . simp only [fullAt,decide_eq_true_eq];exact λe=>m (by rw [e];rfl)
   with_reducible refine sx1 k ?_;trivial
 refine gQ ?_;unfold wholeS;rw [fin f];rfl
def tagN(l:List (List UInt8))(i:Nat):List (List UInt8):=(List.range i).map λ(j:Nat)=>wrapS 160 j (l.getD j (Ty.slice .u8).dflt)
def z8R(l:List (List UInt8))(i:Nat):tagN l (i+1)=tagN l i++ [wrapS 160 i (l.getD i (Ty.slice .u8).dflt)]:=by simp [tagN,Be]
def fieldsS(l:List (List UInt8)):List UInt8:=wholeS (tagN l l.length)
theorem z5S(l:List (List UInt8))(hl:l.length<=1048576):PC Tryz.prog 112 [.isl (.slice .u8) l] (.isl .u8 (fieldsS l)):=by
 refine q0g rfl rfl ?_;refine rQ fi112 ?_;refine q2Z 3 (.slice .u8) (λi=>tagN l i) (λi=>[(8,rI i)]) l.length (λ_=>True) rfl (by simp) (by simp [tagN]) rfl (λi=>rfl) ?_ λi hi _=> ?_
 . with_reducible refine sxE ?_;trivial
 have d:=wsx i (by omega);have hln:(tagN l i).length=i:=by simp [tagN]
 have a:=z8R l i;refine gQ ?_;refine ⟨λb=>⟨⟨by omega,b⟩,q0a (q2d _ _) ?_⟩,λhge=> ?_⟩
 . refine gQ ?_;refine ⟨⟨by omega,by omega⟩,q1P [_,_] [] b trivial (by rw [a];rfl) ?_⟩;with_reducible refine sx3 d a ?_;trivial
 obtain rfl:i=l.length:=by omega
 refine q0x 0 ?_;with_reducible refine sxE ?_
 refine ⟨by omega,?_⟩;rw [Aa (by omega)];refine ⟨Ad _,q0a (z7K (tagN l l.length) (by omega)) ?_⟩;refine gQ ?_;rfl
def keyS(k:Key):List UInt8:=fieldsS [intS k.1,intS k.2.1,elemS 4 [k.2.2]]
theorem j3T(p v:Int)(b:List UInt8):PC Tryz.prog 111 [rI p,rI v,.isl .u8 b] (.isl .u8 (keyS (p,v,b))):=by
 refine q0g rfl rfl ?_;refine rQ fi111 ?_;refine cQ (q3c p) ?_;refine cQ (q3c v) ?_;refine cQ (z1C b) ?_;refine q0x 0 ?_;with_reducible refine sxE ?_
 refine cQ (z5S _ (by simp)) ?_;rfl
def j9B(k:Key):PC Tryz.prog 36 [.agg (KeyT.cells k)] (.isl .u8 (keyS k)):=by refine q0g rfl rfl ?_;refine rQ fi36 ?_;refine cQ (j3T _ _ _) ?_;trivial
def tagS(l:List (List UInt8)):List UInt8:=elemS 48 (tagN l l.length)
def strsN(l:List ByteArray)(i:Nat):List (List UInt8):=(l.take i).map λs=>elemS 27 [s.data.toList]
variable {l:List ByteArray}
def q9D(h:i<l.length):strsN l (i+1)=strsN l i++ [elemS 27 [(l.getD i Ty.str.dflt).data.toList]]:=by unfold strsN;rw [q1e (d:=Ty.str.dflt) h];simp
def z2V(h:i<=l.length):(strsN l i).length=i:=by simp [strsN];omega
def prinS(p:Prin):List UInt8:=elemS 48 [wrapS 160 0 (elemS 48 (strsN p.1 p.1.length)),wrapS 160 1 (elemS 27 [p.2.data.toList])]
theorem z9R(p:Prin)(d:PrinT.ok p):PC Tryz.prog 31 [.agg (PrinT.cells p)] (.tup [.isl .u8 (if vPrin p then prinS p else []),rI (if vPrin p then 0 else 2)]):=by
 obtain ⟨l,r⟩:=p;have f:prinS (l,r)=elemS 48 [wrapS 160 0 (elemS 48 (strsN l l.length)),wrapS 160 1 (elemS 27 [r.data.toList])]:=rfl;have e:∀ {i},i<l.length->(l.getD i Ty.str.dflt).size<=140737488355328:=λh=>d.1.2 _ (q1U h);have o:r.size<=140737488355328:=d.2;have m:=q7C (l,r) d;have k:vPrin (l,r)=true->l.length<=4:=λh=>by simp [vPrin] at h;omega
 clear d;generalize vPrin (l,r)=vb at*;generalize prinS (l,r)=ps at*;change List ByteArray at l;refine q0g rfl rfl ?_;refine rQ fi31 ?_;refine cQ m ?_;refine ⟨λh=> ?_,λh=> ?_⟩
 . rw [h];exact ⟨rfl,rfl⟩
 have hl4:l.length<=4:=k h;subst h;refine q2Z 4 (.slice .u8) (strsN l) (λi=>[(13,rI i)]) l.length (λ_=>True) rfl (by simp) (by simp [strsN]) rfl (λi=>rfl) ?_ λi s _=> ?_
 . with_reducible refine sxE ?_;trivial
 have j:=wsx i (by omega);have hln:=z2V s;by_cases a:i<l.length
 . refine gQ ?_;refine ⟨λ_=>⟨⟨by omega,a⟩,q0a (z2o _ (e a)) ?_⟩,λh=>absurd a h⟩;refine gQ ?_;have b:=q9D a;refine ⟨⟨by omega,by omega⟩,q1P [_,_] [] a trivial (by rw [b];rfl) ?_⟩;with_reducible refine sx3 j b ?_;trivial
 obtain rfl:i=l.length:=by omega
 refine q1j 1 rfl rfl (by omega) ?_ ?_ ?_
 . with_reducible refine sxE ?_;trivial
 . with_reducible refine sxE ?_
   exact Ad _
 with_reducible refine sxE ?_
 rw [Aa (Ad _)];refine gQ ?_;refine ⟨λh=>absurd h a,λ_=>q0d (q4K _ (by omega)) ?_⟩;refine gQ ?_;refine cR (q2d _ _) ?_;refine cR (z2o r o) ?_;refine cR (q2d _ _) ?_;refine q0Y 2 (by decide) ?_;with_reducible refine sxE ?_
 refine cR (q4K _ (by simp)) ?_;exact f.symm
variable {t:Ty}
def mapN(w:t.den->List UInt8)(l:List t.den)(i:Nat):List (List UInt8):=(l.take i).map w
variable {w:t.den->List UInt8}{l:List t.den}
def z2Q(h:i<l.length):mapN w l (i+1)=mapN w l i++ [w (l.getD i t.dflt)]:=by unfold mapN;rw [q1e (d:=t.dflt) h];simp
def z5l(h:i<=l.length):(mapN w l i).length=i:=by simp [mapN];omega
def prinE(p:Prin):List UInt8:=if vPrin p then prinS p else []
def q0P(n:Nat):(byteOf (n:Int)).toNat=n%256:=by
 have h:=q0U (n:Int);have:IntKind.u8.wrap (n:Int)=((n%256:Nat):Int):=by simp [IntKind.wrap,IntKind.bits,IntKind.signed]
 rw [this] at h;unfold byteOf;rw [this]
 exact_mod_cast h
def beN1(a:UInt8):beN [a]=a.toNat:=by simp [beN]
def beN2(a b:UInt8):beN [a,b]=a.toNat*256+b.toNat:=by simp [beN]
def beN3(a b c:UInt8):beN [a,b,c]=(a.toNat*256+b.toNat)*256+c.toNat:=by simp [beN]
theorem q5y(n k:Nat):(n:Int).fdiv (k:Int)=((n / k:Nat):Int):=by rw [BO _ (by omega)];rfl
def q5x(t:UInt8)(c r:List UInt8)(h:c.length<=16777215):meas (tlv t c++r)=(1+ (lenS c.length).length,1+ (lenS c.length).length+c.length,0):=by
 have s:((c.length:Nat):Int).fdiv 256=((c.length / 256:Nat):Int):=q5y _ 256;have y:((c.length:Nat):Int).fdiv 65536=((c.length / 65536:Nat):Int):=q5y _ 65536;unfold tlv;rcases AL c.length 128 with m|m
 . have d:lenS c.length= [byteOf c.length]:=by unfold lenS;rw [if_pos m]
   have a:(byteOf (c.length:Int)).toNat=c.length:=by rw [q0P];omega
   rw [d];unfold meas measE;simp only [Ay,Ar,As,Ab,AK,AD,a,BH];rw [if_neg (by omega),if_pos m,if_neg (by omega)]
 rcases AL c.length 256 with u|u
 . have d:lenS c.length= [129,byteOf c.length]:=by unfold lenS;rw [if_neg (by omega),if_pos u]
   have a:(byteOf (c.length:Int)).toNat=c.length:=by rw [q0P];omega
   have j:(129:UInt8).toNat=129:=rfl;rw [d];unfold meas measE;simp only [Ay,Ar,As,Ab,AK,AD,j,BH,Bh,Ap,Nat.reduceSub,Bx,A7,beN1,a,minLen];rw [if_neg (by omega),if_neg (by omega),if_neg (by omega),if_neg (by omega),if_neg (by omega),if_neg (by omega)]
 rcases AL c.length 65536 with x|x
 . have d:lenS c.length= [130,byteOf ((c.length:Int).fdiv 256),byteOf c.length]:=by unfold lenS;rw [if_neg (by omega),if_neg (by omega),if_pos x]
   have a:(byteOf (c.length:Int)).toNat=c.length%256:=q0P _;have b:(byteOf ((c.length:Int).fdiv 256)).toNat=c.length / 256:=by rw [s,q0P];omega
   have f:(130:UInt8).toNat=130:=rfl;have k:c.length / 256*256+c.length%256=c.length:=by omega
   rw [d];unfold meas measE;simp only [Ay,Ar,As,Ab,AK,AD,f,BH,Bh,Ap,Nat.reduceSub,Bx,A7,beN2,a,b,k,minLen];rw [if_neg (by omega),if_neg (by omega),if_neg (by omega),if_neg (by omega),if_neg (by omega),if_neg (by omega)]
 have d:lenS c.length= [131,byteOf ((c.length:Int).fdiv 65536),byteOf ((c.length:Int).fdiv 256),byteOf c.length]:=by unfold lenS;rw [if_neg (by omega),if_neg (by omega),if_neg (by omega)]
 have a:(byteOf (c.length:Int)).toNat=c.length%256:=q0P _;have b:(byteOf ((c.length:Int).fdiv 256)).toNat=c.length / 256%256:=by rw [s,q0P]
 have o:(byteOf ((c.length:Int).fdiv 65536)).toNat=c.length / 65536:=by rw [y,q0P];omega
 have e:(131:UInt8).toNat=131:=rfl;have k:(c.length / 65536*256+c.length / 256%256)*256+c.length%256=c.length:=by omega
 rw [d];unfold meas measE;simp only [Ay,Ar,As,Ab,AK,AD,e,BH,Bh,Ap,Nat.reduceSub,Bx,A7,beN3,a,b,o,k,minLen];rw [if_neg (by omega),if_neg (by omega),if_neg (by omega),if_neg (by omega),if_neg (by omega),if_neg (by omega)]

def takeE(tag:UInt8)(r:List UInt8):Nat:=if r.length=0 then 4 else if r.getD 0 0≠tag then 6 else (meas r).2.2
def takeC(r:List UInt8):List UInt8:=(r.take (meas r).2.1).drop (meas r).1
def takeN(r:List UInt8):Nat:=(meas r).2.1
def q0J(t:UInt8)(c:List UInt8):(tlv t c).length=1+ (lenS c.length).length+c.length:=by simp [tlv];omega
def z2H(t:UInt8)(c r:List UInt8)(h:c.length<=16777215):takeE t (tlv t c++r)=0:=by unfold takeE;rw [q5x t c r h,if_neg (by simp [tlv]),if_neg (by simp [tlv])]
def q8d(t:UInt8)(c r:List UInt8)(h:c.length<=16777215):takeC (tlv t c++r)=c:=by unfold takeC;rw [q5x t c r h,Bp (by rw [q0J];exact Ad _),Aa (by rw [q0J];exact Ad _)];have:tlv t c=(t :: lenS c.length)++c:=rfl;rw [this,Bo (by simp;omega),List.drop_of_length_le (by simp;omega),Ar]
def z3f(t:UInt8)(c r:List UInt8)(h:c.length<=16777215):takeN (tlv t c++r)=(tlv t c).length:=by unfold takeN;rw [q5x t c r h,q0J]
variable {r:List UInt8}
theorem z3C(h:(meas r).2.2=0):2<=(meas r).1/\(meas r).1<=(meas r).2.1/\(meas r).2.1<=r.length:=by
 have key:∀a n,(measE r a n).2.2=0->2<=a->a<=r.length->2<=(measE r a n).1/\(measE r a n).1<=(measE r a n).2.1/\(measE r a n).2.1<=r.length:=by
  intro a n e h2 h3;unfold measE at e⊢;split at e
  . cases e
  rename_i k;rw [if_neg k];simp only;omega
 unfold meas at h⊢;repeat' split at h
 all_goals first| (cases h;done) |skip
 . rename_i d b;rw [if_neg d,if_pos b];exact key _ _ h (by omega) (by omega)
 rename_i d b m f j;rw [if_neg d,if_neg b,if_neg m,if_neg f,if_neg j];exact key _ _ h (by omega) (by omega)
variable {t:UInt8}
def z0e(h:takeE t r=0):(meas r).2.2=0:=by
 unfold takeE at h;split at h
 . cases h
 split at h
 . cases h
 exact h
def q2C{t:UInt8}{r:List UInt8}(h:takeE t r=0):takeN r<=r.length:=(z3C (z0e h)).2.2
def q7K(h:takeE t r=0):2<=takeN r:=by have:=z3C (z0e h);unfold takeN;omega
def q8B(r:List UInt8):(takeC r).length<=r.length:=by unfold takeC;rw [Ah,Am];omega

abbrev PR(α:Type):=List UInt8->Except Nat (α×Nat)
variable {α:Type}
def rdP(tag:UInt8)(dec:List UInt8->Option α):PR α:=λr=>
 if takeE tag r=0 then match dec (takeC r) with
  |some v=>.ok (v,takeN r)
  |none=>.error 6
 else .error (takeE tag r)
def allP(p:PR α)(c:List UInt8):Except Nat α:=match p c with
 |.error e=>.error e
 |.ok (v,m)=>if m<c.length then .error 6 else .ok v
def inP(tag:UInt8)(p:PR α):PR α:=λr=>
 if takeE tag r=0 then match allP p (takeC r) with
  |.ok v=>.ok (v,takeN r)
  |.error e=>.error e
 else .error (takeE tag r)
def tagB(n:Nat):UInt8:=byteOf (160+n)
def nextB(n:Nat)(r:List UInt8):Bool:=decide (r.length≠0) && decide (r.getD 0 0=tagB n)
def mayP(n:Nat)(p:PR α):PR (Option α):=λr=>
 if nextB n r then match inP (tagB n) p r with
  |.ok (v,k)=>.ok (some v,k)
  |.error e=>.error e
 else .ok (none,0)
def needP(n:Nat)(p:PR α):PR α:=λr=>if nextB n r then inP (tagB n) p r else .error (if r.length=0 then 4 else 6)
def bindP{β:Type}(p:PR α)(f:α->PR β):PR β:=λr=>match p r with
 |.error e=>.error e
 |.ok (v,k)=>match f v (r.drop k) with
  |.error e=>.error e
  |.ok (u,m)=>.ok (u,k+m)
def retP(v:α):PR α:=λ_=>.ok (v,0)
def listP{α:Type}(p:PR α):Nat->PR (List α)
 |0,r=>if r.length=0 then .ok ([],0) else .error 6
 |n+1,r=>if r.length=0 then .ok ([],0) else match p r with
  |.error e=>.error e
  |.ok (v,k)=>match listP p n (r.drop k) with
   |.error e=>.error e
   |.ok (l,m)=>.ok (v :: l,k+m)

variable {c:List UInt8}{v:α}
theorem q8y{dec:List UInt8->Option α}(h:c.length<=16777215)(a:dec c=some v)(r:List UInt8):rdP t dec (tlv t c++r)= .ok (v,(tlv t c).length):=by unfold rdP;rw [z2H t c r h,q8d t c r h,z3f t c r h,a];rfl
variable {p:PR α}
def q4g(h:c.length<=16777215)(a:p c= .ok (v,c.length))(r:List UInt8):inP t p (tlv t c++r)= .ok (v,(tlv t c).length):=by unfold inP allP;rw [z2H t c r h,q8d t c r h,z3f t c r h,a];simp
def z1J(n:Nat)(c r:List UInt8):nextB n (tlv (tagB n) c++r)=true:=by simp [nextB,tlv]
def j0X(h:c.length<=16777215)(a:p c= .ok (v,c.length))(r:List UInt8):needP n p (tlv (tagB n) c++r)= .ok (v,(tlv (tagB n) c).length):=by unfold needP;rw [if_pos (z1J n c r),q4g h a]
def q0A(h:c.length<=16777215):elemS t [c]=tlv t c:=by unfold elemS;simp only [Ak,Aq,Ac];rw [if_pos h]
variable {l:List (List UInt8)}
def q1u(h:l.flatten.length<=16777215):elemS t l=tlv t l.flatten:=by unfold elemS;rw [if_pos h]
def z0I(n:Nat)(h:n<=30):(tagB n).toNat=160+n:=by
 unfold tagB;have:(160+ (n:Int))=((160+n:Nat):Int):=by omega
 rw [this,q0P];omega
def j2e{m:Nat}(b:n<=30)(a:m<=30)(h:tagB n=tagB m):n=m:=by have:=congrArg UInt8.toNat h;rw [z0I n b,z0I m a] at this;omega
theorem q3J{b:List UInt8}(hn:n<=30)(h:b.length<=16777215):wrapS 160 n b=if b= [] then [] else tlv (tagB n) b:=by
 unfold wrapS;by_cases a:b= []
 . rw [if_neg (λq=>q.2.2 a),if_pos a]
 rw [if_pos ⟨by omega,by omega,a⟩,if_neg a,q0A h];rfl
def sufS(l:List (List UInt8))(n k:Nat):List UInt8:=((List.range' n k).map λj=>wrapS 160 (j:Nat) (l.getD j [])).flatten
def q0S(l:List (List UInt8))(n k:Nat):sufS l n (k+1)=wrapS 160 (n:Nat) (l.getD n [])++sufS l (n+1) k:=by simp [sufS,Cp]
theorem q5k(l:List (List UInt8)):(tagN l l.length).flatten=sufS l 0 l.length:=by unfold tagN sufS;rw [List.range_eq_range'];rfl
def z5M(l:List (List UInt8))(a:∀j,(l.getD j []).length<=16777215):∀ (k n:Nat),n+k<=31->∀i,i<n->nextB i (sufS l n k)=false
 |0,n,_,i,_=>by simp [sufS,nextB]
 |k+1,n,hn,i,hi=>by
  rw [q0S,q3J (by omega) (a n)];split
  . rw [Ar];exact z5M l a k (n+1) (by omega) i (by omega)
  simp only [tlv,Ay,nextB,As,AD,Cm,decide_eq_false_iff_not];exact .inr λe=>by have:=j2e (by omega) (by omega) e;omega
def q1Q{k:Nat}(a:∀j,(l.getD j []).length<=16777215)(e:n<=30)(d:l.getD n []≠ [])(b:p (l.getD n [])= .ok (v,(l.getD n []).length)):
 needP n p (sufS l n (k+1))= .ok (v,(wrapS 160 (n:Nat) (l.getD n [])).length)/\(sufS l n (k+1)).drop (wrapS 160 (n:Nat) (l.getD n [])).length=sufS l (n+1) k:=by
 rw [q0S,B2];refine ⟨?_,rfl⟩;rw [q3J e (a n),if_neg d];exact j0X (a n) b _
def q3H{β:Type}{f:α->PR β}{r':List UInt8}{k:Nat}{u:β}{m:Nat}(h:p r= .ok (v,k)/\r.drop k=r')(a:f v r'= .ok (u,m)):bindP p f r= .ok (u,k+m):=by unfold bindP;rw [h.1];simp only;rw [h.2,a]
def z0o{α:Type}{p:PR α}{enc:α->List UInt8}:∀ (l:List α) (n:Nat),l.length<=n->(∀x∈l,enc x≠ []/\∀r,p (enc x++r)= .ok (x,(enc x).length))->listP p n (l.map enc).flatten= .ok (l,(l.map enc).flatten.length)
 | [],0,_,_=>rfl
 | [],n+1,_,_=>rfl
 |x :: l,0,h,_=>absurd h (by simp)
 |x :: l,n+1,h,hx=>by obtain ⟨f,d⟩:=hx x (by simp);have a:=z0o l n (by simpa using h) (λy b=>hx y (by simp [b]));simp only [AB,Ak,listP];rw [if_neg (by simp;intro e;exact absurd e f),d];simp only [B2];rw [a];simp
@[go_sem] abbrev rdr(b:List UInt8)(n:Nat):SObj:=.cells 147 [.isl .u8 b,rI n,.raw (.bool true)]
def z2Z(b:List UInt8)(n:Nat)(a:n<=b.length):PE Tryz.prog 183 [.ptr 0 0] [rdr b n] (.ret (.isl .u8 (b.drop n))) [rdr b n]:=by refine q0b (Ad _) ?_;refine rQ fi183 ?_;refine ⟨⟨by omega,a,Ad _⟩,?_⟩;rw [Aw]
def q3d(b:List UInt8)(n:Nat)(a:n<=b.length):PE Tryz.prog 128 [.ptr 0 0] [rdr b n] (.ret (rI ((b.length-n:Nat):Int))) [rdr b n]:=by refine q0b (Ad _) ?_;refine rQ fi128 ?_;refine eQ [0] (z2Z b n a) ?_;rw [Ah]
def j1o(b:List UInt8):PE Tryz.prog 125 [.isl .u8 b] [] (.ret (.ptr 0 0)) [rdr b 0]:=by refine q0b (Aj _) ?_;refine rQ fi125 ?_;trivial
def z4B(b:List UInt8):PE Tryz.prog 127 [.isl .u8 b] [] (.ret (.tup [.ptr 0 0,rB true])) [rdr b 0]:=by refine q0b (Aj _) ?_;refine rQ fi127 ?_;refine eQ [] (j1o b) ?_;trivial
theorem z2s(tag:UInt8)(b:List UInt8)(n:Nat)(s:n<=b.length)(hb:b.length<=1099511627776):
 PE Tryz.prog 182 [.ptr 0 0,.raw (.int .u8 tag.toNat)] [rdr b n] (.ret (.tup [.isl .u8 (if takeE tag (b.drop n)=0 then takeC (b.drop n) else []),rI (takeE tag (b.drop n))])) [rdr b (if takeE tag (b.drop n)=0 then n+takeN (b.drop n) else n)]:=by
 have m:=z2Z b n s;have hlr:(b.drop n).length=b.length-n:=Ah;have k:=z9F (b.drop n) (by omega);have hok:= @q2C tag (b.drop n);generalize hR:b.drop n=r at*;have d:takeE tag r=if r.length=0 then 4 else if r.getD 0 0≠tag then 6 else (meas r).2.2:=rfl;refine q0b (Ad _) ?_;refine rQ fi182 ?_;refine eQ [0] (m) ?_;refine ⟨λh=> ?_,λh=> ?_⟩
 . rw [if_pos (by omega)] at d;rw [d];exact ⟨⟨rfl,rfl⟩,rfl⟩
 rw [if_neg (by omega)] at d;refine ⟨by omega,λf=> ?_,λf=> ?_⟩
 . rw [if_pos (λe=>f (by subst e;rfl))] at d;rw [d];exact ⟨⟨rfl,rfl⟩,rfl⟩
 have:r.getD 0 0=tag:=by
  apply AZ.1;have:((r.getD 0 Ty.u8.dflt).toNat:Int)=tag.toNat:=f
  exact_mod_cast this
 rw [if_neg (by simpa using this)] at d;refine q0a k ?_;unfold measV;refine gQ ?_;refine ⟨λo=> ?_,λo=> ?_⟩
 . have a:¬(meas r).2.2=0:=by omega
   rw [d,if_neg a,if_neg a];exact ⟨⟨rfl,rfl⟩,rfl⟩
 have a:(meas r).2.2=0:=by omega
 have j:=z3C a;rw [d,if_pos a,if_pos a,wrapi (by omega),a];exact ⟨⟨by omega,j.2.1,Ad _,j.2.2⟩,⟨rfl,rfl⟩,congrArg (Value.int .i64) (by unfold takeN;omega)⟩
theorem q7n(g:Nat)(tag:UInt8)(b:List UInt8)(n:Nat)(o:n<=b.length)(j:b.length<=1099511627776)(v:SV)(right:Bool)(m:PC Tryz.prog g [.isl .u8 (takeC (b.drop n))] (.tup [v,rB right]))(d:∃u,(v= .raw u)\/∃xs,v= .isl .u8 xs):
 PE Tryz.prog 130 [.ptr 0 0,.raw (.int .u8 tag.toNat),.fn g [] []] [rdr b n] (.ret (if takeE tag (b.drop n)=0 then (if right then .tup [v,rI 0] else .tup [.raw (.int .i64 0),rI 6]) else .tup [.raw (.int .i64 0),rI (takeE tag (b.drop n))])) [rdr b (if takeE tag (b.drop n)=0/\right=true then n+takeN (b.drop n) else n)]:=by
 have f:=z2s tag b n o j;generalize takeE tag (b.drop n)=e at*;generalize takeC (b.drop n)=c at*;generalize takeN (b.drop n)=k at*;refine q0b (Ad _) ?_;refine rQ fi130 ?_;refine eQ [0] (f) ?_;refine ⟨λh=> ?_,λh=> ?_⟩
 . have a:¬e=0:=by omega
   simp only [if_neg a,a,false_and,if_false];with_reducible refine sxE ?_;trivial
 obtain rfl:e=0:=by omega
 simp only [true_and,if_true];refine q0a m ?_;obtain ⟨u,rfl| ⟨xs,rfl⟩⟩:=d
 . cases right
   . refine uQ 600 _ ?_;simp (maxSteps:=3000000) only [A3,if_false,go_sem,↓zA,↓reduceIte,↓reduceDIte] <;>try simp only [zB]
   refine gQ ?_;trivial
 cases right
 . refine uQ 600 _ ?_;simp (maxSteps:=3000000) only [A3,if_false,go_sem,↓zA,↓reduceIte,↓reduceDIte] <;>try simp only [zB]
 refine gQ ?_;trivial
theorem z5k(g:Nat)(tag:UInt8)(b:List UInt8)(n:Nat)(o:n<=b.length)(j:b.length<=1099511627776)(v:SV)(right:Bool)(m:PC Tryz.prog g [.isl .u8 (takeC (b.drop n))] (.tup [v,rB right]))(d:∃u,(v= .raw u)\/∃xs,v= .isl .u8 xs):
 PE Tryz.prog 186 [.ptr 0 0,.raw (.int .u8 tag.toNat),.fn g [] []] [rdr b n] (.ret (if takeE tag (b.drop n)=0 then (if right then .tup [v,rI 0] else .tup [.raw (.string ⟨#[]⟩),rI 6]) else .tup [.raw (.string ⟨#[]⟩),rI (takeE tag (b.drop n))])) [rdr b (if takeE tag (b.drop n)=0/\right=true then n+takeN (b.drop n) else n)]:=by
 have f:=z2s tag b n o j;generalize takeE tag (b.drop n)=e at*;generalize takeC (b.drop n)=c at*;generalize takeN (b.drop n)=k at*;refine q0b (Ad _) ?_;refine rQ fi186 ?_;refine eQ [0] (f) ?_;refine ⟨λh=> ?_,λh=> ?_⟩
 . have a:¬e=0:=by omega
   simp only [if_neg a,a,false_and,if_false];with_reducible refine sxE ?_;trivial
 obtain rfl:e=0:=by omega
 simp only [true_and,if_true];refine q0a m ?_;obtain ⟨u,rfl| ⟨xs,rfl⟩⟩:=d
 . cases right
   . refine uQ 600 _ ?_;simp (maxSteps:=3000000) only [A3,if_false,go_sem,↓zA,↓reduceIte,↓reduceDIte] <;>try simp only [zB]
   refine gQ ?_;trivial
 cases right
 . refine uQ 600 _ ?_;simp (maxSteps:=3000000) only [A3,if_false,go_sem,↓zA,↓reduceIte,↓reduceDIte] <;>try simp only [zB]
 refine gQ ?_;trivial
theorem q9F(g:Nat)(tag:UInt8)(b:List UInt8)(n:Nat)(o:n<=b.length)(j:b.length<=1099511627776)(v:SV)(right:Bool)(m:PC Tryz.prog g [.isl .u8 (takeC (b.drop n))] (.tup [v,rB right]))(d:∃u,(v= .raw u)\/∃xs,v= .isl .u8 xs):
 PE Tryz.prog 142 [.ptr 0 0,.raw (.int .u8 tag.toNat),.fn g [] []] [rdr b n] (.ret (if takeE tag (b.drop n)=0 then (if right then .tup [v,rI 0] else .tup [.isl .u8 [],rI 6]) else .tup [.isl .u8 [],rI (takeE tag (b.drop n))])) [rdr b (if takeE tag (b.drop n)=0/\right=true then n+takeN (b.drop n) else n)]:=by
 have f:=z2s tag b n o j;generalize takeE tag (b.drop n)=e at*;generalize takeC (b.drop n)=c at*;generalize takeN (b.drop n)=k at*;refine q0b (Ad _) ?_;refine rQ fi142 ?_;refine eQ [0] (f) ?_;refine ⟨λh=> ?_,λh=> ?_⟩
 . have a:¬e=0:=by omega
   simp only [if_neg a,a,false_and,if_false];with_reducible refine sxE ?_;trivial
 obtain rfl:e=0:=by omega
 simp only [true_and,if_true];refine q0a m ?_;obtain ⟨u,rfl| ⟨xs,rfl⟩⟩:=d
 . cases right
   . refine uQ 600 _ ?_;simp (maxSteps:=3000000) only [A3,if_false,go_sem,↓zA,↓reduceIte,↓reduceDIte] <;>try simp only [zB]
   refine gQ ?_;trivial
 cases right
 . refine uQ 600 _ ?_;simp (maxSteps:=3000000) only [A3,if_false,go_sem,↓zA,↓reduceIte,↓reduceDIte] <;>try simp only [zB]
 refine gQ ?_;trivial
def u8w(x:Int):IntKind.u8.wrap x=x%256:=by simp [IntKind.wrap,IntKind.bits,IntKind.signed]
def z8W(n:Nat):UInt8.ofNat (IntKind.u8.wrap ((n:Int).tmod 256)).toNat=byteOf n:=by unfold byteOf;rw [u8w,u8w,Bv (by omega),Int.emod_emod_of_dvd _ (by decide)]
theorem z3Q(n:Nat)(k:Nat):(n:Int).tdiv k=((n / k:Nat):Int):=by rw [CF (by omega)];rfl
theorem j4y(n:Nat)(k:Nat):(n:Int).fdiv k=((n / k:Nat):Int):=by rw [BO _ (by omega)];rfl
theorem k1l(tag:Int)(c:List UInt8)(hc:c.length<=1048576):PC Tryz.prog 122 [rI tag,.isl .u8 c] (.isl .u8 (tlv (byteOf tag) c)):=by
 have f:IntKind.i64.wrap ((c.length:Int).tdiv 256)=((c.length / 256:Nat):Int):=by rw [show (256:Int)=((256:Nat):Int) from rfl,z3Q,wrapi (by omega)]
 have k:IntKind.i64.wrap ((c.length:Int).tdiv 65536)=((c.length / 65536:Nat):Int):=by rw [show (65536:Int)=((65536:Nat):Int) from rfl,z3Q,wrapi (by omega)]
 have b:(c.length:Int).fdiv 256=((c.length / 256:Nat):Int):=j4y _ 256;have d:(c.length:Int).fdiv 65536=((c.length / 65536:Nat):Int):=j4y _ 65536;have a:tlv (byteOf tag) c=byteOf tag :: (lenS c.length++c):=rfl;generalize tlv (byteOf tag) c=r at*;refine q0g rfl rfl ?_;refine ry2 fi122 f k ?_;refine ⟨q0U _,λh=> ?_,λh=>⟨λe=> ?_,λe=>⟨λj=> ?_,λj=> ?_⟩⟩⟩
 . refine ⟨q0U _,⟨by omega,by omega⟩,⟨by omega,by omega⟩,?_⟩;rw [Aa (by simp;omega),a,show lenS c.length= [byteOf c.length] by unfold lenS;rw [if_pos (by omega)]];rfl
 . refine ⟨⟨rfl,q0U _⟩,⟨by omega,by omega⟩,⟨by omega,by omega⟩,?_⟩;rw [Aa (by simp;omega),a,show lenS c.length= [129,byteOf c.length] by unfold lenS;rw [if_neg (by omega),if_pos (by omega)]];rfl
 . refine ⟨by decide,by decide,⟨rfl,q0U _,q0U _⟩,⟨by omega,by omega⟩,⟨by omega,by omega⟩,?_⟩;rw [Aa (by simp;omega),a,z8W,show lenS c.length= [130,byteOf ((c.length:Int).fdiv 256),byteOf c.length] by unfold lenS;rw [if_neg (by omega),if_neg (by omega),if_pos (by omega)],b];rfl
 refine ⟨by decide,by decide,by decide,by decide,⟨rfl,q0U _,q0U _,q0U _⟩,⟨by omega,by omega⟩,⟨by omega,by omega⟩,?_⟩;rw [Aa (by simp;omega),a,z8W,z8W,show lenS c.length= [131,byteOf ((c.length:Int).fdiv 65536),byteOf ((c.length:Int).fdiv 256),byteOf c.length] by unfold lenS;rw [if_neg (by omega),if_neg (by omega),if_neg (by omega)],b,d];rfl
def q9j(t:UInt8)(tag:Int)(b:byteOf tag=t)(c:List UInt8)(a:c.length<=1048576):PC Tryz.prog 122 [rI tag,.isl .u8 c] (.isl .u8 (elemS t [c])):=by
 have h:=k1l tag c a;rw [b] at h;have e:elemS t [c]=tlv t c:=by unfold elemS;simp only [Ak,Aq,Ac];rw [if_pos (by omega)]
 rwa [<-e] at h
theorem j5k(s:ByteArray)(hs:s.size<=1048576):PC Tryz.prog 123 [rS s] (.isl .u8 (elemS 27 [s.data.toList])):=by
 have hl:(bytesOf s).length=s.size:=by simp [bytesOf]
 refine q0g rfl rfl ?_;refine rQ fi123 ?_;refine q0x 0 ?_;with_reducible refine sxE ?_
 refine ⟨by omega,by omega,?_⟩;rw [Aa (by omega)];refine cQ (q9j 27 27 (by decide) _ (by omega)) ?_;rfl
def j0V(b:List UInt8)(a:b.length<=1048576):PC Tryz.prog 58 [.isl .u8 b] (.isl .u8 (elemS 4 [b])):=by refine q0g rfl rfl ?_;refine rQ fi58 ?_;refine cQ (q9j 4 4 (by decide) _ a) ?_;trivial
theorem q9e(a:Bool)(b:List UInt8):PC Tryz.prog 57 [rB a,.isl .u8 b] (.isl .u8 (if a then [] else b)):=by refine q0g rfl rfl ?_;refine rQ fi57 ?_;cases a<;>simp
def j0O(t:UInt8)(l:List (List UInt8)):elemS t [l.flatten]=elemS t l:=by unfold elemS;simp
theorem q2P(n:Int)(a:0<=n/\n<=30)(b:List UInt8)(f:b.length<=1048576):PC Tryz.prog 54 [rI n,.isl .u8 b] (.isl .u8 (wrapS 160 n b)):=by
 refine q0g rfl rfl ?_;refine rQ fi54 ?_;refine ⟨λh=> ?_,λh=> ?_⟩
 . unfold wrapS;rw [if_neg (λd=>d.2.2 (AH.1 (by omega)))]
 rw [wrapi (by omega)];refine cQ (q9j (byteOf (160+n)) _ rfl _ f) ?_;unfold wrapS;rw [if_pos ⟨a.1,a.2,λe=>h (by rw [e];rfl)⟩]
theorem q9I(l:List (List UInt8))(hl:l.length<=1048576)(e:l.flatten.length<=1048576):PC Tryz.prog 53 [.isl (.slice .u8) l] (.isl .u8 (elemS 48 l)):=by
 refine q0g rfl rfl ?_;refine rQ fi53 ?_;refine q2Z 3 .u8 (flatN l) (λi=>[(4,rI i)]) l.length (λ_=>True) rfl (by simp) (by simp [flatN]) rfl (λi=>rfl) ?_ λi hi _=> ?_
 . with_reducible refine sxE ?_;trivial
 have d:=wsx i (by omega);have hle:=q6b l i;refine gQ ?_;refine ⟨λb=> ?_,λhge=> ?_⟩
 . have a:=q4y b;have hle':=q6b l (i+1);rw [a,Ab] at hle';refine ⟨⟨by omega,b⟩,⟨by omega,by omega⟩,q1P [.dead] [] b trivial (by rw [a];rfl) ?_⟩;with_reducible refine sx3 d a ?_;trivial
 obtain rfl:i=l.length:=by omega
 rw [q8t] at*;refine q0x 0 ?_;with_reducible refine sxE ?_
 refine ⟨by omega,Ad _,?_⟩;rw [Aa (Ad _)];refine cQ (q9j 48 48 (by decide) l.flatten e) ?_;exact j0O 48 l
def q8p{x:Int}(h:0<=x):UInt8.ofNat (IntKind.u8.wrap (x.tmod 256)).toNat=byteOf x:=by unfold byteOf;rw [u8w,u8w,Bv h,Int.emod_emod_of_dvd _ (by decide)]
def z9d{v:Int}{k:Nat}(h:k<n):(numS v n).take (k+1)=(numS v n).take k++ [byteAt v (n-1-k)]:=by rw [q1e (d:=0) (by simp [numS];omega)];congr 2;rw [Ae,Af (by simp [numS];omega)];simp [numS]
def qN(n k:Nat):Nat:=n / 256^ k
def z0y(n k:Nat):qN n (k+1)=qN n k / 256:=by unfold qN;rw [CD,Nat.div_div_eq_div_mul]
def j9t(n k:Nat):qN n k<=n:=Nat.div_le_self _ _
def j0b(n:Nat){k m:Nat}(h:k<=m):qN n m<=qN n k:=Nat.div_le_div_left (A2 (by decide) h) (Nat.pos_of_ne_zero (by simp))
theorem q2Y(n k:Nat):restN (n:Int) k=(qN n k:Int):=by
 induction k with
 |zero=>simp [restN,qN]
 |succ k a=>rw [restN,a,show (256:Int)=((256:Nat):Int) from rfl,j4y,z0y]
theorem pow28(k:Nat):(2:Int) ^ (8*k)=((256^ k:Nat):Int):=by rw [show (256:Nat)=2^ 8 from rfl,<-Nat.pow_mul];push_cast;rfl
theorem q1t(n k:Nat)(hk:k<=8):byteAt (n:Int) k=byteOf (qN n k:Int):=by unfold byteAt;rw [Cy (by omega),pow28,j4y];rfl
def q2i(v:Int)(m:Nat):numS v (m+1)=byteAt v m :: numS v m:=by
 apply Av
 . simp [numS]
 intro j h1 h2;cases j with
 |zero=>simp [numS]
 |succ j=>simp only [numS,AJ,AG,List.getElem_cons_succ];congr 1;omega
def k0O(n:Nat)(hn:n<=4611686018427387904):PC Tryz.prog 55 [rI n] (.isl .u8 (intS n)):=by
 refine q0g rfl rfl ?_;have B:IntKind.i64.wrap ((n:Int).tdiv 256)=(qN n 1:Int):=by rw [show (256:Int)=((256:Nat):Int) from rfl,z3Q,wrapi (by omega)];rfl
 refine ry1 fi55 B ?_;refine ⟨by decide,q0U _,by decide,?_⟩;rw [z8W];have C:[byteOf (n:Int)]=numS n 1:=by simp [numS,byteAt]
 rw [C];refine q0m (ι:=Nat×List SObj) (λx=>[(0,rI (qN n (x.1+1):Int)),(3,.bld x.2.length .u8 (x.1+1))]) (λx=>x.2++ [.row .u8 (numS n (x.1+1))]) (λx=>8-x.1) (λx=>x.1<=7/\(x.1≠0->0<qN n x.1)) (0,[]) ⟨by omega,λh=>absurd rfl h⟩ rfl ?_ ?_
 . with_reducible refine sxE ?_;trivial
 rintro ⟨j,G⟩ ⟨H,a⟩;dsimp only at H a;have A:(numS (n:Int) (j+1)).length=j+1:=by simp [numS]
 have E:IntKind.i64.wrap ((qN n (j+1):Int).tdiv 256)=(qN n (j+1+1):Int):=by have F:=j9t n (j+1+1);rw [show (256:Int)=((256:Nat):Int) from rfl,z3Q,<-z0y,wrapi (by omega)]
 have u:List.take (j+1) (numS (n:Int) (j+1))=numS n (j+1):=Aa (by omega);have e:=z0y n;have d:∀k,k<j->oneB (n:Int) k=false:=λk D=>by have F:qN n j<=qN n (k+1):=j0b n (by omega);have h2:=a (by omega);have h3:=e k;unfold oneB;rw [q2Y,decide_eq_false (show ¬((qN n k:Int)<=127) by omega)];simp
 refine uQ 600 _ ?_;simp (maxSteps:=3000000) only [E,A,u,List.append_assoc,getA,getA0,setA,setA0,Ab,Ax,go_sem,↓zA,↓reduceIte,↓reduceDIte] <;>try simp only [zB]
 refine ⟨λhp=> ?_,λhz=> ?_⟩
 . have y:j+1<=7:=by
    rcases AL j 7 with h|h
    . omega
    exfalso;obtain rfl:j=7:=by omega
    have h8:qN n (7+1)=0:=Nat.div_eq_of_lt (by omega);omega
   refine ⟨by decide,q0U _,⟨Nat.le_refl _,by omega,by omega⟩,by decide,(j+1,G++ [.row .u8 (numS n (j+1)),.dead]),⟨y,λ_=>by dsimp only;omega⟩,by dsimp only;omega,?_,?_⟩
   . dsimp only;rw [q8p (by omega),<-q1t n (j+1) (by omega),<-q2i,List.append_assoc];rfl
   with_reducible refine sxaE ?_
   exact congrArg (SV.bld (G.length+2) .u8) (by omega)
 have hz0:qN n (j+1)=0:=by omega
 have hd:=e j;have hlt:qN n j<256:=by omega
 have s:(numS (n:Int) (j+1)).getD 0 Ty.u8.dflt=byteOf (qN n j:Int):=by rw [q2i,AD,q1t n j (by omega)]
 have z:((byteOf (qN n j:Int)).toNat:Int)=(qN n j:Int):=by unfold byteOf;rw [q0U,u8w];omega
 have b:intS (n:Int)=elemS 2 [numS n (intSz n)]:=by unfold intS;rw [if_pos (by omega)]
 rw [s,z];refine ⟨by omega,by omega,λm=>⟨rfl,⟨Ad _,by omega,by omega⟩,?_⟩,λm=> ?_⟩
 . have f:intSz (n:Int)=j+1+1:=by
    unfold intSz
    rw [q5i (i:=j+1) (by omega) (by unfold oneB;rw [q2Y,hz0];rfl) (λk D=>by
     rcases AL k j with h|h
     . exact d k h
     obtain rfl:k=j:=by omega
     unfold oneB;rw [q2Y,decide_eq_false (show ¬((qN n k:Int)<=127) by omega)];simp)]
    simp;omega
   have o:UInt8.ofNat 0 :: numS (n:Int) (j+1)=numS n (j+1+1):=by rw [q2i (n:Int) (j+1),q1t n (j+1) (by omega),hz0];rfl
   rw [o];have hl2:(numS (n:Int) (j+2)).length=j+2:=by simp [numS]
   refine q0x (G.length+2) ?_;with_reducible refine sxaE ?_
   refine ⟨by omega,by omega,?_⟩;rw [Aa (by omega)];refine cQ (q9j 2 2 (by decide) _ (by omega)) ?_;rw [b,f]
 have f:intSz (n:Int)=j+1:=by unfold intSz;rw [q5i (i:=j) (by omega) (by unfold oneB;rw [q2Y,decide_eq_true (show ((qN n j:Int)<=127) by omega),decide_eq_true (show (-128<=(qN n j:Int)) by omega)];rfl) d];simp;omega
 refine q0x G.length ?_;with_reducible refine sxaE ?_
 refine ⟨by omega,by omega,?_⟩;rw [Aa (by omega)];refine cQ (q9j 2 2 (by decide) _ (by omega)) ?_;rw [b,f]
def inR(v lo hi:Int):Bool:=decide (lo<=v) && decide (v<=hi)
theorem j2h(v a b:Int):PC Tryz.prog 96 [rI v,rI a,rI b] (rB (inR v a b)):=by
 refine q0s rfl rfl ?_;refine rQ fi96 ?_<;>try with_reducible exact True.intro
 repeat' (first
  | (with_reducible refine And.intro ?_ ?_)
  | (with_reducible intro _))
 all_goals (grind [inR])
theorem j6Y(p:Int):PC Tryz.prog 212 [rI p] (rI (keyLen p)):=by
 refine q0s rfl rfl ?_;refine rQ fi212 ?_<;>try with_reducible exact True.intro
 repeat' (first
  | (with_reducible refine And.intro ?_ ?_)
  | (with_reducible intro _))
 all_goals (simp_all [keyLen])
def z7e(p:Int):(0<keyLen p)=(keyLen p≠0):=by unfold keyLen;split<;> (try split) <;>simp
theorem k1b(k:Key):PC Tryz.prog 181 [.agg (KeyT.cells k)] (rB (vKey k)):=by
 refine q0s rfl rfl ?_;refine rQ fi181 ?_<;>try with_reducible exact True.intro
 repeat' (first
  | (refine q0a (j6Y _) ?_;refine uQ 600 _ ?_;simp (maxSteps:=3000000) only [go_sem,↓zA,↓reduceIte,↓reduceDIte] <;>try simp only [zB])
  | (refine q0d (j6Y _) ?_;refine uQ 600 _ ?_;simp (maxSteps:=3000000) only [go_sem,↓zA,↓reduceIte,↓reduceDIte] <;>try simp only [zB])
  | (refine q0i (j6Y _) ?_;refine uQ 600 _ ?_;simp (maxSteps:=3000000) only [go_sem,↓zA,↓reduceIte,↓reduceDIte] <;>try simp only [zB])
  | (refine q0a (j2h _ _ _) ?_;refine uQ 600 _ ?_;simp (maxSteps:=3000000) only [go_sem,↓zA,↓reduceIte,↓reduceDIte] <;>try simp only [zB])
  | (refine q0d (j2h _ _ _) ?_;refine uQ 600 _ ?_;simp (maxSteps:=3000000) only [go_sem,↓zA,↓reduceIte,↓reduceDIte] <;>try simp only [zB])
  | (refine q0i (j2h _ _ _) ?_;refine uQ 600 _ ?_;simp (maxSteps:=3000000) only [go_sem,↓zA,↓reduceIte,↓reduceDIte] <;>try simp only [zB])
  | (with_reducible refine And.intro ?_ ?_)
  | (with_reducible intro _))
 all_goals (simp_all [vKey,inR,z7e])
theorem q3B{xs ys:List UInt8}:strOf xs=strOf ys ↔ xs=ys:=by
 constructor
 . intro h;have:=congrArg (λs:ByteArray=>s.data.toList) h;simpa [strOf] using this
 rintro rfl;rfl
theorem k0X(a b:Key):PC Tryz.prog 88 [.agg (KeyT.cells a),.agg (KeyT.cells b)] (rB (decide (a=b))):=by
 obtain ⟨p,v,l⟩:=a;obtain ⟨p',v',l'⟩:=b;refine q0s rfl rfl ?_;refine rQ fi88 ?_<;>try with_reducible exact True.intro
 repeat' (first
  | (with_reducible refine And.intro ?_ ?_)
  | (with_reducible intro _))
 all_goals (simp_all [q3B])

def partAt(l:List ByteArray)(j:Nat):Bool:=vPart (l.getD j ByteArray.empty)
theorem k1o(p:Prin)(b:PrinT.ok p):PC Tryz.prog 48 [.agg (PrinT.cells p)] (rB (vPrin p)):=by
 obtain ⟨l,r⟩:=p;have hl:l.length<=1125899906842624:=b.1.1;have hd:vPrin (l,r)=((decide (1<=(l.length:Int)) && (decide ((l.length:Int)<=4) && realmB r)) && allN l.length (partAt l)):=rfl;refine q0s rfl rfl ?_;refine rQ fi48 ?_;refine q1p (λi=>[(3,.raw (.int .i64 ((i:Nat):Int)))]) (l.length) (λj=>(partAt l) j=true) (by first|decide|simp) (λi=>rfl) ?_ λi hi a=> ?_
 . (with_reducible refine sxE ?_<;>try exact True.intro)
   all_goals (try rfl)
 have e:=wsx i (by omega);refine gQ ?_;have f:i< (l.length)->(partAt l) i=false->allN (l.length) (partAt l)=false:=λd k=>q0u d k;have fin:¬i< (l.length)->allN (l.length) (partAt l)=true:=λh=>q0v λj hj=>a j (by omega);try dsimp only at f fin a
 repeat' (first
  | (refine q0a (j1m _ (b.1.2 _ (q1U ‹_›))) ?_;refine uQ 600 _ ?_;simp (maxSteps:=3000000) only [go_sem,↓zA,↓reduceIte,↓reduceDIte] <;>try simp only [zB])
  | (refine q0d (j1m _ (b.1.2 _ (q1U ‹_›))) ?_;refine uQ 600 _ ?_;simp (maxSteps:=3000000) only [go_sem,↓zA,↓reduceIte,↓reduceDIte] <;>try simp only [zB])
  | (refine q0i (j1m _ (b.1.2 _ (q1U ‹_›))) ?_;refine uQ 600 _ ?_;simp (maxSteps:=3000000) only [go_sem,↓zA,↓reduceIte,↓reduceDIte] <;>try simp only [zB])
  | (refine q0a (z1B _ b.2) ?_;refine uQ 600 _ ?_;simp (maxSteps:=3000000) only [go_sem,↓zA,↓reduceIte,↓reduceDIte] <;>try simp only [zB])
  | (refine q0d (z1B _ b.2) ?_;refine uQ 600 _ ?_;simp (maxSteps:=3000000) only [go_sem,↓zA,↓reduceIte,↓reduceDIte] <;>try simp only [zB])
  | (refine q0i (z1B _ b.2) ?_;refine uQ 600 _ ?_;simp (maxSteps:=3000000) only [go_sem,↓zA,↓reduceIte,↓reduceDIte] <;>try simp only [zB])
  | (with_reducible refine And.intro ?_ ?_)
  | (with_reducible intro _))
 all_goals (first| (with_reducible (refine (id ?_:SoundI _ _ _))) | ((try simp only [Ty.dflt] at*);first|omega| (refine ⟨by omega,q1o a (by grind [partAt,vPart,szB]),⟨_,by first|rfl|exact List.append_assoc _ _ _| (simp only [List.append_assoc,Ay,Ar];rfl)⟩,?_⟩;simp only [e,go_sem,↓zA,↓reduceIte,↓reduceDIte] <;> (first|rfl| (grind [partAt,vPart,szB]))) | (refine ⟨_,rfl⟩) | (refine ⟨_,List.append_assoc _ _ _⟩) | (grind [partAt,vPart,szB])))
def eqAt[DecidableEq α](l l':List α)(d:α)(j:Nat):Bool:=decide (l.getD j d=l'.getD j d)
def sameN[DecidableEq α](l a:List α)(d:α):(l=a) ↔ (l.length=a.length/\allN l.length (eqAt l a d)=true):=by
 constructor
 . rintro rfl;exact ⟨rfl,q0v λj _=>by simp [eqAt]⟩
 rintro ⟨h,f⟩;apply Av h;intro j b e;have:=q2H.1 f j b;simp only [eqAt,decide_eq_true_eq,Ae,Af b,Af e,BM] at this;exact this
theorem k1q(a b:Prin)(s:PrinT.ok a):PC Tryz.prog 87 [.agg (PrinT.cells a),.agg (PrinT.cells b)] (rB (decide (a=b))):=by
 obtain ⟨l,r⟩:=a;obtain ⟨e,r'⟩:=b;have hl:l.length<=1125899906842624:=s.1.1;refine q0s rfl rfl ?_;refine rQ fi87 ?_<;>try with_reducible exact True.intro
 repeat' (first
  | (with_reducible refine And.intro ?_ ?_)
  | (with_reducible intro _))
 all_goals (skip)
 . grind
 . refine q1p (λi=>[(5,.raw (.int .i64 ((i:Nat):Int)))]) (l.length) (λj=>(eqAt l e ByteArray.empty) j=true) (by first|decide|simp) (λi=>rfl) ?_ λi hi d=> ?_
   . (with_reducible refine sxE ?_<;>try exact True.intro)
     all_goals (try rfl)
   have k:=wsx i (by omega);refine gQ ?_;have m:i< (l.length)->(eqAt l e ByteArray.empty) i=false->allN (l.length) (eqAt l e ByteArray.empty)=false:=λf o=>q0u f o;have fin:¬i< (l.length)->allN (l.length) (eqAt l e ByteArray.empty)=true:=λh=>q0v λj hj=>d j (by omega);try dsimp only at m fin d
   have key:=sameN l e ByteArray.empty
   repeat' (first
    | (with_reducible refine And.intro ?_ ?_)
    | (with_reducible intro _))
   all_goals (first| (with_reducible (refine (id ?_:SoundI _ _ _))) | ((try simp only [Ty.dflt] at*);first|omega| (refine ⟨by omega,q1o d (by grind [eqAt]),⟨_,by first|rfl|exact List.append_assoc _ _ _| (simp only [List.append_assoc,Ay,Ar];rfl)⟩,?_⟩;simp only [k,go_sem,↓zA,↓reduceIte,↓reduceDIte] <;> (first|rfl| (grind [eqAt]))) | (refine ⟨_,rfl⟩) | (refine ⟨_,List.append_assoc _ _ _⟩) | (grind [eqAt])))
 grind

end Go.Proofs.YthbcodbcndiapaaGreatDoor