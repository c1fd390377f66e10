/- Authorisation data: the law's examples hold. -/
import Derived.Test.YtmapiojgmbgbgaaGreatDoorQ30
set_option linter.all false
namespace Go.Proofs.YtmapiojgmbgbgaaGreatDoor
open Go Go.Sx Go.Proofs
set_option maxRecDepth 100000
set_option maxHeartbeats 40000000
def cliK:Prin:=([⟨#[97]⟩],⟨#[82]⟩)
def pK:Pac:=(cliK,10,1000,[5,7],[])
def r16(c:UInt8):List UInt8:=List.replicate 16 c
def sK:Key:=(1,1,r16 1)
def rK:Key:=(1,4,r16 2)
theorem vpK:vPac pK=true:=by kernel_rfl
theorem vsK:vKey sK=true:=by decide
theorem vrK:vKey rK=true:=by decide
theorem lpK:(pacS pK).length=44:=by kernel_rfl
def m16(f:Nat→UInt8):List UInt8:=(List.range 16).map f
theorem z8n{l:List UInt8}(h:l.length=16):l=m16 (fun i=>l.getD i 0):=by
 unfold m16;apply AO
 · simp [h]
 intro i h1 h2;simp [Ae h1]
theorem lsgn(f g:Nat→UInt8):(sgnS (pK,(1,1,m16 f),(1,4,m16 g))).length=116:=by kernel_rfl
def cK:List UInt8:=sgnS (signX pK sK rK)
theorem lcK:cK.length=116:=by
 have h1:=q4W sK 17 (pacS pK) (by decide)
 have h2:=q4W rK 18 (smS sK 17 (pacS pK)) (by decide)
 have e:signX pK sK rK=(pK,(1,1,smS sK 17 (pacS pK)),(1,4,smS rK 18 (smS sK 17 (pacS pK)))):=rfl;unfold cK;rw [e,z8n (l:=smS sK 17 (pacS pK)) h1];rw [z8n (l:=smS rK 18 _) (by rw [z8n (l:=smS sK 17 (pacS pK)) h1] at h2;exact h2)]
 exact lsgn _ _
theorem sgK:signS pK sK rK=(cK,0):=by
 have h:=lcK;unfold signS;rw [vpK,vsK,vrK,BD,BD,if_pos rfl,if_neg (by rw [show (sgnS (signX pK sK rK)).length=116 from h];decide)]
 rfl
theorem vf1:vfyS cK sK rK=(pK,0):=z0A vpK vsK vrK (.inl rfl) (.inl rfl)
theorem vf2:vfyS cK sK KeyT.dflt=(pK,0):=z0A vpK vsK vrK (.inl rfl) (.inr rfl)
theorem vf3:vfyS cK KeyT.dflt rK=(pK,0):=z0A vpK vsK vrK (.inr rfl) (.inl rfl)
theorem z1c{p:Pac}{s r s' r':Key}{e:Int}(hv:vPac p=true)(hs:vKey s=true)(hr:vKey r=true)(h1:vKey s'=true)(h2:vKey r'=true)(n1:noK s'=false)(n2:noK r'=false)
 (hw:(e=230∧fitK s' (sigK s 17 (pacS p))=false)∨(e=231∧s'=s∧fitK r' (sigK r 18 (smS s 17 (pacS p)))=false)):vfyS (sgnS (signX p s r)) s' r'=(PacT.dflt,e):=by
 have hX:signX p s r=(p,sigK s 17 (pacS p),sigK r 18 (smS s 17 (pacS p))):=rfl;have a1:argK s'=true:=by unfold argK;rw [h1,Ca]
 have a2:argK r'=true:=by unfold argK;rw [h2,Ca]
 unfold vfyS;rw [a1,a2,BD,if_pos rfl,z0o (z3z hv hs hr),hX];dsimp only;rcases hw with ⟨rfl,h⟩ | ⟨rfl,rfl,h⟩
 · rw [show rightB s' 17 (pacS p) (sigK s 17 (pacS p))=false by unfold rightB;rw [n1,h];rfl,if_neg (by decide)]
 rw [q6A,if_pos rfl,show rightB r' 18 (sigK s' 17 (pacS p)).2.2 (sigK r 18 (smS s' 17 (pacS p)))=false by unfold rightB;rw [n2,h];rfl,if_neg (by decide)]
theorem vf4:vfyS cK rK rK=(PacT.dflt,230):=z1c vpK vsK vrK vrK vrK (by decide) (by decide) (.inl ⟨rfl,rfl⟩)
theorem vf5:vfyS cK sK sK=(PacT.dflt,231):=z1c vpK vsK vrK vsK vsK (by decide) (by decide) (.inr ⟨rfl,rfl,rfl⟩)
theorem vf6:vfyS [48,0] sK rK=(PacT.dflt,6):=by
 have h:decSg [48,0]=none:=by kernel_rfl
 unfold vfyS;rw [show argK sK=true by decide,show argK rK=true by decide,BD,if_pos rfl,h]
theorem okpK:PacT.ok pK:=by
 refine ⟨⟨⟨by decide,fun s hs=> ?_⟩,show (1:Nat)≤_ by decide⟩,trivial,trivial,⟨by decide,fun _ _=>trivial⟩,q7v⟩
 rw [Cn.1 hs];show (1:Nat)≤_;decide
theorem okK16(v:Int)(c:UInt8):KeyT.ok ((1,v,r16 c):Key):=⟨trivial,trivial,⟨by show (List.replicate 16 c).length≤_;simp,fun _ _=>trivial⟩⟩
theorem okK0:KeyT.ok KeyT.dflt:=⟨trivial,trivial,q7v⟩
theorem z3H:PC Tryz.prog 12 [] (rB true):=by
 have ce:=j0E pK okpK;rw [vpK,if_pos rfl,if_pos rfl] at ce;have cs:=q8v pK sK rK okpK (okK16 1 1) (okK16 4 2);rw [sgK] at cs;have v1:=q3K cK sK rK (by rw [lcK];decide) (okK16 1 1) (okK16 4 2)
 rw [vf1] at v1;have v2:=q3K cK sK KeyT.dflt (by rw [lcK];decide) (okK16 1 1) okK0
 rw [vf2] at v2;have v3:=q3K cK KeyT.dflt rK (by rw [lcK];decide) okK0 (okK16 4 2)
 rw [vf3] at v3;have v4:=q3K cK rK rK (by rw [lcK];decide) (okK16 4 2) (okK16 4 2)
 rw [vf4] at v4;have v5:=q3K cK sK sK (by rw [lcK];decide) (okK16 1 1) (okK16 1 1)
 rw [vf5] at v5;have v6:=q3K [48,0] sK rK (by decide) (okK16 1 1) (okK16 4 2)
 rw [vf6] at v6;have b1:=z1q pK cliK 10 okpK okpK.1;have b2:=z1q pK cliK 11 okpK okpK.1;rw [show bindS pK cliK 10=0 by kernel_rfl] at b1
 rw [show bindS pK cliK 11=232 by kernel_rfl] at b2
 have m7:=z4u pK 7 okpK;have m6:=z4u pK 6 okpK;rw [show (decide ((7:Int)∈pK.2.2.2.1))=true from by decide] at m7
 rw [show (decide ((6:Int)∈pK.2.2.2.1))=false from by decide] at m6
 have hs:=q8R pK pK okpK;rw [decide_eq_true rfl] at hs;have l1:=lpK;have l2:=lcK;have l1i:((pacS pK).length:Int)=44:=by omega
 have l2i:(cK.length:Int)=116:=by omega
 generalize pacS pK=bb at*;generalize cK=cc at*;refine q0p rfl rfl ?_;refine q3E fi12 ?_;refine gQ ?_;refine ⟨by decide,q0a (q5n 1 16 (by decide)) ?_⟩
 with_reducible refine sxE ?_
 refine q0Q 2 rfl rfl (by simp) ?_ ?_ ?_
 · with_reducible refine sxE ?_;trivial
 · with_reducible refine sxE ?_;trivial
 with_reducible refine sxE ?_
 refine q0Q 0 rfl rfl (by simp) ?_ ?_ ?_
 · with_reducible refine sxE ?_;trivial
 · with_reducible refine sxE ?_;trivial
 with_reducible refine sxE ?_
 refine gQ ?_;refine cQ (q5n 2 16 (by decide)) ?_
 refine q0a (ce.arg ?_) ?_
 · simp (maxSteps:=3000000) only [pK,cliK,go_sem,↓zA,↓reduceIte,↓reduceDIte] <;>try simp only [zB]
 refine gQ ?_;refine q0a (cs.arg ?_) ?_
 · simp (maxSteps:=3000000) only [pK,cliK,sK,rK,r16,go_sem,↓zA,↓reduceIte,↓reduceDIte] <;>try simp only [zB]
 refine gQ ?_;refine q0a (v1.arg ?_) ?_
 · simp (maxSteps:=3000000) only [sK,rK,r16,go_sem,↓zA,↓reduceIte,↓reduceDIte] <;>try simp only [zB]
 refine gQ ?_;refine q0a (v2.arg ?_) ?_
 · simp (maxSteps:=3000000) only [sK,rK,r16,go_sem,↓zA,↓reduceIte,↓reduceDIte] <;>try simp only [zB]
   exact ⟨rfl,rfl,rfl⟩
 refine gQ ?_;refine q0a (v3.arg ?_) ?_
 · simp (maxSteps:=3000000) only [sK,rK,r16,go_sem,↓zA,↓reduceIte,↓reduceDIte] <;>try simp only [zB]
   exact ⟨rfl,rfl,rfl⟩
 refine gQ ?_;refine q0a (v4.arg ?_) ?_
 · simp (maxSteps:=3000000) only [sK,rK,r16,go_sem,↓zA,↓reduceIte,↓reduceDIte] <;>try simp only [zB]
 refine gQ ?_;refine q0a (v5.arg ?_) ?_
 · simp (maxSteps:=3000000) only [sK,rK,r16,go_sem,↓zA,↓reduceIte,↓reduceDIte] <;>try simp only [zB]
 refine gQ ?_;refine ⟨⟨rfl,rfl⟩,q0m 12 ?_⟩;with_reducible refine sxE ?_
 refine q0a (v6.arg ?_) ?_
 · simp (maxSteps:=3000000) only [sK,rK,r16,go_sem,↓zA,↓reduceIte,↓reduceDIte] <;>try simp only [zB]
   rfl
 have hw00:IntKind.i64.wrap (0+0)=0:=by decide
 refine gQ ?_;refine cQ (q2L _) ?_;refine cy1 (q2L _) hw00 ?_;refine cy1 (q2L _) hw00 ?_;refine cy1 (q2L _) hw00 ?_;refine q0a (q2L _) ?_;refine gy3 hw00 l1i l2i ?_;refine cQ (q2L _) ?_;refine cQ (q2L _) ?_;refine cQ (q2L _) ?_;refine q0a (hs.arg ?_) ?_
 · simp (maxSteps:=3000000) only [pK,cliK,go_sem,↓zA,↓reduceIte,↓reduceDIte] <;>try simp only [zB]
 refine gQ ?_;refine q0a (hs.arg ?_) ?_
 · simp (maxSteps:=3000000) only [pK,cliK,go_sem,↓zA,↓reduceIte,↓reduceDIte] <;>try simp only [zB]
 refine gQ ?_;refine q0a (hs.arg ?_) ?_
 · simp (maxSteps:=3000000) only [pK,cliK,go_sem,↓zA,↓reduceIte,↓reduceDIte] <;>try simp only [zB]
 refine gQ ?_;refine q0a (b1.arg ?_) ?_
 · simp (maxSteps:=3000000) only [pK,cliK,go_sem,↓zA,↓reduceIte,↓reduceDIte] <;>try simp only [zB]
 refine gQ ?_;refine cQ (q2L _) ?_;refine q0a (b2.arg ?_) ?_
 · simp (maxSteps:=3000000) only [pK,cliK,go_sem,↓zA,↓reduceIte,↓reduceDIte] <;>try simp only [zB]
 refine gQ ?_;refine cQ (q2L _) ?_;refine q0a (m7.arg ?_) ?_
 · simp (maxSteps:=3000000) only [pK,cliK,go_sem,↓zA,↓reduceIte,↓reduceDIte] <;>try simp only [zB]
 refine gQ ?_;refine q0a (m6.arg ?_) ?_
 · simp (maxSteps:=3000000) only [pK,cliK,go_sem,↓zA,↓reduceIte,↓reduceDIte] <;>try simp only [zB]
 refine gQ ?_;trivial
set_option maxHeartbeats 4000000
theorem z1l(x:Int):UInt8.ofNat (IntKind.u8.wrap (x.tmod 256)).toNat=byteOf x:=by
 unfold byteOf;rw [u8w,u8w];have h:x.tmod 256%256=x%256:=by rw [Int.tmod_def];omega
 rw [h]
theorem j6O(v:Int)(n:Nat)(hn:n≤7):PC Tryz.prog 86 [rI v,rI n] (.isl .u8 (numS v n)):=by
 have hl:(numS v n).length=n:=by simp [numS]
 have w0:IntKind.i64.wrap ((n:Int) -1)=(n:Int) -1:=wrapi (by omega)
 refine q0f rfl rfl ?_;refine ry1 fi86 w0 ?_;refine q2x 5 .u8 (fun k=>(numS v n).take k) (fun k=>[(6,rI ((n:Int) -1-k))]) n (fun _=>True) rfl (by simp) (by simp) rfl (fun i=>rfl) ?_ fun k hk _=> ?_
 · with_reducible refine sxE ?_
   simp
 have hln:((numS v n).take k).length=k:=by simp [numS];omega
 have w1:IntKind.i64.wrap (8* ((n:Int) -1-k))=8* ((n:Int) -1-k):=wrapi (by omega)
 have w2:IntKind.i64.wrap ((n:Int) -1-k-1)=(n:Int) -1- ((k+1:Nat):Int):=by rw [wrapi (by omega)];omega
 refine gy2 w1 w2 ?_;refine ⟨fun hlt=> ?_,fun hge=> ?_⟩
 · have hkn:k<n:=by omega
   have hst:=z7u (v:=v) hkn;have e8:(8* ((n:Int) -1-k)).toNat=8* (n-1-k):=by omega
   have hb:UInt8.ofNat (IntKind.u8.wrap ((v.fdiv (2^ min (8* (n-1-k)) 64)).tmod 256)).toNat=byteAt v (n-1-k):=z1l _;rw [e8,hb];refine ⟨by omega,by decide,by rw [←hb];exact q1c _,⟨by omega,by omega⟩,q1z [_,_] [] hkn trivial (by rw [hst];rfl) ?_⟩
   simp (maxSteps:=3000000) only [hst,Ac,go_sem,↓zA,↓reduceIte,↓reduceDIte] <;>try simp only [zB]
 obtain rfl:k=n:=by omega
 refine ⟨⟨Ag _,by omega⟩,?_⟩
 rw [Aa (by omega),Aa (by omega)]
def timR(t:Int):List UInt8:=elemS 24 [numS t 6]
theorem j3t(t:Int):PC Tryz.prog 41 [rI t] (.isl .u8 (timR t)):=by
 refine q0f rfl rfl ?_;refine rQ fi41 ?_;refine cQ (j6O t 6 (by decide)) ?_
 refine cQ (q8E 24 24 (by decide) _ (by simp [numS])) ?_
 rfl
theorem j4b{t:Int}(h:0≤t∧t≤1099511627776):timR t=timeS t:=by unfold timeS timR;rw [if_pos h]
theorem z4s(t:Int):(timR t).length≤11:=by
 unfold timR;rw [q1L (by rw [q0F];decide),q1p,q0F];decide
def negB(v:Int):List UInt8:=if 128≤(byteOf v).toNat then [0,byteOf v] else [byteOf v]
def intR(v:Int):List UInt8:=if 0≤v∧v≤4611686018427387904 then intS v else if v<0 then elemS 2 [negB v] else elemS 2 [numS v 8]
theorem z3o{v:Int}(h:0≤v∧v≤4611686018427387904):intR v=intS v:=if_pos h
theorem z0b(v:Int):(intR v).length≤14:=by
 unfold intR;split
 · exact q1a v
 have h1:=q0v 2 [negB v];have h2:=q0v 2 [numS v 8];simp only [Aq,AB,Ai,q0F] at h1 h2;have h3:(negB v).length≤2:=by unfold negB;split<;>simp
 split<;>omega
theorem j5d(v:Int)(h0:v<0)(h1: -9223372036854775808≤v):PC Tryz.prog 37 [rI v] (.isl .u8 (intR v)):=by
 have hr:intR v=elemS 2 [negB v]:=by unfold intR;rw [if_neg (by omega),if_pos h0]
 obtain ⟨n,hn⟩:∃n:Nat,v= -(n:Int):=⟨(-v).toNat,by omega⟩
 have ht:v.tdiv 256= -((n / 256:Nat):Int):=by rw [hn,Int.neg_tdiv,show (256:Int)=((256:Nat):Int) from rfl,z2Q]
 have hd:v.tdiv 256≤0:=by omega
 have hd1: -9223372036854775808≤v.tdiv 256:=by omega
 have q0:IntKind.i64.wrap (v.tdiv 256)=v.tdiv 256:=wrapi (by omega)
 rw [hr];refine q0f rfl rfl ?_;refine ry1 fi37 q0 ?_;refine ⟨by decide,q1c _,by decide,?_⟩
 rw [z1l];refine q0i (ι:=Unit) (fun _=>[(0,rI (v.tdiv 256)),(3,.bld 0 .u8 1)]) (fun _=>[.row .u8 [byteOf v]]) (fun _=>0) (fun _=>True) () trivial rfl ?_ ?_
 · with_reducible refine sxE ?_;trivial
 rintro ⟨⟩ _;refine gQ ?_;refine ⟨fun h=>absurd h (by omega),fun _=> ?_⟩
 unfold negB;refine ⟨fun h128=>⟨rfl,?_⟩,fun h128=> ?_⟩
 · rw [if_pos (by omega)]
   refine q0m 2 ?_;with_reducible refine sxE ?_
   refine cQ (q8E 2 2 (by decide) _ (by simp)) ?_
   rfl
 rw [if_neg (by omega)]
 refine q0m 0 ?_;with_reducible refine sxE ?_
 refine cQ (q8E 2 2 (by decide) _ (by simp)) ?_;trivial
theorem j5Y(v:Int)(h0:4611686018427387904<v)(h1:v≤9223372036854775807):PC Tryz.prog 37 [rI v] (.isl .u8 (intR v)):=by
 have hr:intR v=elemS 2 [numS v 8]:=by unfold intR;rw [if_neg (by omega),if_neg (by omega)]
 rw [hr];clear hr;obtain ⟨n,rfl⟩:∃n:Nat,v=n:=⟨v.toNat,by omega⟩
 refine q0f rfl rfl ?_;have q0:IntKind.i64.wrap ((n:Int).tdiv 256)=(qN n 1:Int):=by rw [show (256:Int)=((256:Nat):Int) from rfl,z2Q,wrapi (by omega)];rfl
 have h7:64≤qN n 7∧qN n 7≤127:=by unfold qN;constructor<;>omega
 have h8:qN n 8=0:=by unfold qN;omega
 refine ry1 fi37 q0 ?_;refine ⟨by decide,q1c _,by decide,?_⟩
 rw [z7q];have h0:[byteOf (n:Int)]=numS n 1:=by simp [numS,byteAt]
 rw [h0];refine q0i (ι:=Nat×List SObj) (fun x=>[(0,rI (qN n (x.1+1):Int)),(3,.bld x.2.length .u8 (x.1+1))]) (fun x=>x.2++ [.row .u8 (numS n (x.1+1))]) (fun x=>8-x.1) (fun x=>x.1≤7) (0,[]) (by omega) rfl ?_ ?_
 · with_reducible refine sxE ?_;trivial
 rintro ⟨j,G⟩ hj;dsimp only at hj;have hln:(numS (n:Int) (j+1)).length=j+1:=by simp [numS]
 have q1:IntKind.i64.wrap ((qN n (j+1):Int).tdiv 256)=(qN n (j+1+1):Int):=by
  have h1:=j5f n (j+1+1);rw [show (256:Int)=((256:Nat):Int) from rfl,z2Q,←q9F,wrapi (by omega)]
 have htk:List.take (j+1) (numS (n:Int) (j+1))=numS n (j+1):=Aa (by omega)
 refine uQ 600 _ ?_;simp (maxSteps:=3000000) only [q1,hln,htk,List.append_assoc,getA,getA0,setA,setA0,Ac,Nat.add_assoc,go_sem,↓zA,↓reduceIte,↓reduceDIte] <;>try simp only [zB]
 refine ⟨fun hp=> ?_,fun hz=> ?_⟩
 · have hj7:j+1≤7:=by
    rcases AC j 7 with h|h
    · omega
    exfalso;obtain rfl:j=7:=by omega
    have:qN n (7+1)=0:=h8;omega
   refine ⟨by decide,q1c _,⟨Nat.le_refl _,by omega,by omega⟩,by decide,(j+1,G++ [.row .u8 (numS n (j+1)),.dead]),hj7,by dsimp only;omega,?_,?_⟩
   · dsimp only;rw [q7N (by omega),←q2j n (j+1) (by omega),←q2u,List.append_assoc]
     rfl
   with_reducible refine sxaE ?_
   exact congrArg (SV.bld (G.length+2) .u8) (by omega)
 have hz0:qN n (j+1)=0:=by omega
 have hj:j=7:=by
  rcases AC j 7 with h|h
  · exfalso;have:=z8g n (show j+1≤7 by omega)
    omega
  omega
 subst hj;have hln8:(numS (n:Int) 8).length=8:=hln;have htop:(numS (n:Int) 8).getD 0 Ty.u8.dflt=byteOf (qN n 7:Int):=by
  rw [q2u,Bk,q2j n 7 (by omega)]
 have htn:((byteOf (qN n 7:Int)).toNat:Int)=(qN n 7:Int):=by
  unfold byteOf;rw [q1c,u8w];omega
 rw [htop,htn];refine ⟨by omega,by omega,fun h128=>absurd h128 (by omega),fun h128=> ?_⟩
 refine q0m G.length ?_;with_reducible refine sxaE ?_
 refine ⟨by omega,by omega,?_⟩
 rw [Aa (by omega)]
 refine cQ (q8E 2 2 (by decide) _ (by omega)) ?_;trivial
theorem j2t(v:Int)(h: -9223372036854775808≤v∧v≤9223372036854775807):PC Tryz.prog 37 [rI v] (.isl .u8 (intR v)):=by
 by_cases h0:v<0
 · exact j5d v h0 h.1
 by_cases h1:v≤4611686018427387904
 · rw [z3o ⟨by omega,h1⟩];exact z6g v ⟨by omega,h1⟩
 exact j5Y v (by omega) h.2
theorem j0i{l:List ByteArray}{k:Nat}(hl:l.length≤64)(h:∀x∈l,x.size≤1000):(strsN l k).flatten.length≤64320:=by
 have h1:=q6m (B:=1005) (strsN l k) (fun x hx=>by
  unfold strsN at hx;rw [Bl] at hx;obtain ⟨y,hy,rfl⟩:=hx;have h2:=h y (B8 hy);have h3:=q0v 27 [y.data.toList];have h4:y.data.toList.length=y.size:=by simp
  simp only [Aq,AB,Ai] at h3
  omega)
 have h2:(strsN l k).length≤64:=by unfold strsN;simp;omega
 have:1005* (strsN l k).length≤1005*64:=Bd _ h2;omega
def shP(p:Prin):Prop:=p.1.length≤64∧(∀x∈p.1,x.size≤1000)∧p.2.size≤1000
theorem z7x(p:Prin)(h:shP p):PC Tryz.prog 38 [.agg (PrinT.cells p)] (.isl .u8 (prinS p)):=by
 obtain ⟨l,r⟩:=p;obtain ⟨hl,hp,hr⟩:=h;dsimp only at hl hp hr;have hps:prinS (l,r)=elemS 48 [wrapS 160 0 (elemS 48 (strsN l l.length)),wrapS 160 1 (elemS 27 [r.data.toList])]:=rfl;generalize prinS (l,r)=ps at*;refine q0f rfl rfl ?_;refine rQ fi38 ?_;refine q2x 3 (.slice .u8) (strsN l) (fun i=>[(4,rI i)]) l.length (fun _=>True) rfl (by simp) (by simp [strsN]) rfl (fun i=>rfl) ?_ fun i hi _=> ?_
 · with_reducible refine sxE ?_;trivial
 have hwr:=wsx i (by omega)
 have hln:=z2c hi;by_cases hlt:i<l.length
 · have hst:=q8T hlt;have hsz:=hp _ (q0O (d:=Ty.str.dflt) hlt);refine gQ ?_;refine ⟨fun _=>⟨⟨by omega,hlt⟩,q0a (j2A _ (by omega)) ?_⟩,fun h=>absurd hlt h⟩
   refine gQ ?_;refine ⟨⟨by omega,by omega⟩,q1z [_,_] [] hlt trivial (by rw [hst];rfl) ?_⟩
   with_reducible refine sx3 hwr hst ?_;trivial
 obtain rfl:i=l.length:=by omega
 have hf:=j0i (k:=l.length) hl hp;have g1:=q0v 48 (strsN l l.length);have g2:=q0v 27 [r.data.toList];have g3:r.data.toList.length=r.size:=by simp
 simp only [Aq,AB,Ai] at g2;have g4:=q0y 160 0 (elemS 48 (strsN l l.length));have g5:=q0y 160 1 (elemS 27 [r.data.toList]);refine q0Q 1 rfl rfl (by omega) ?_ ?_ ?_
 · with_reducible refine sxE ?_;trivial
 · with_reducible refine sxE ?_
   exact Ag _
 with_reducible refine sxE ?_
 rw [Aa (Ag _)];refine gQ ?_;refine ⟨fun h=>absurd h hlt,fun _=>q0d (q7O _ (by omega) (by omega)) ?_⟩
 refine gQ ?_;refine cR (q3c 0 (by decide) _ (by omega)) ?_
 refine cR (j2A r (by omega)) ?_
 refine cR (q3c 1 (by decide) _ (by omega)) ?_
 refine q0A 2 (by decide) ?_
 with_reducible refine sxE ?_
 refine cR (q7O _ (by simp) (by simp only [Aq,AB,Ai,Ac];omega)) ?_
 exact hps.symm
set_option maxHeartbeats 40000000
def shS(p:Prin):Prop:=p.1.length≤6∧(∀x∈p.1,x.size≤40)∧p.2.size≤40
theorem j5m{p:Prin}(h:shS p):shP p:=⟨Am h.1 (by decide),fun x hx=>Am (h.2.1 x hx) (by decide),Am h.2.2 (by decide)⟩
theorem j1W{p:Prin}(h:vPrin p=true):shS p:=by
 obtain ⟨h1,h2,h3⟩:=q5d h;exact ⟨by omega,fun x hx=>Am (h2 x hx) (by decide),by omega⟩
theorem z2S{p:Prin}(h:shS p):(prinS p).length≤400:=by
 obtain ⟨l,r⟩:=p;obtain ⟨hl,hp,hr⟩:=h;dsimp only at hl hp hr;have hps:prinS (l,r)=elemS 48 [wrapS 160 0 (elemS 48 (strsN l l.length)),wrapS 160 1 (elemS 27 [r.data.toList])]:=rfl
 have h1:=q6m (B:=45) (strsN l l.length) (fun x hx=>by
  unfold strsN at hx;rw [Bl] at hx;obtain ⟨y,hy,rfl⟩:=hx;have h2:=hp y (B8 hy);have h3:=q0v 27 [y.data.toList];have h4:y.data.toList.length=y.size:=by simp
  simp only [Aq,AB,Ai] at h3
  omega)
 have h2:(strsN l l.length).length≤6:=by unfold strsN;simp;omega
 have h3:45* (strsN l l.length).length≤45*6:=Bd _ h2;have g1:=q0v 48 (strsN l l.length);have g2:=q0v 27 [r.data.toList];have g3:r.data.toList.length=r.size:=by simp
 simp only [Aq,AB,Ai] at g2;have g4:=q0y 160 0 (elemS 48 (strsN l l.length));have g5:=q0y 160 1 (elemS 27 [r.data.toList]);have g6:=q0v 48 [wrapS 160 0 (elemS 48 (strsN l l.length)),wrapS 160 1 (elemS 27 [r.data.toList])];simp only [Aq,AB,Ai,Ac] at g6;rw [hps];omega
def shC(p:Pac):Prop:=shS p.1∧p.2.2.2.1.length≤70∧p.2.2.2.2.length≤20∧(∀x∈p.2.2.2.2,shS x)∧(-9223372036854775808≤p.2.2.1∧p.2.2.1≤9223372036854775807)∧∀x∈p.2.2.2.1, -9223372036854775808≤x∧x≤9223372036854775807
def grpN(g:List Int)(i:Nat):List (List UInt8):=mapN (t:=I64) intR g i
def viaN(w:List Prin)(i:Nat):List (List UInt8):=mapN (t:=PrinT) prinS w i
def pacF(p:Pac):List (List UInt8):=[wrapS 160 0 (prinS p.1),wrapS 160 1 (timR p.2.1),wrapS 160 2 (intR p.2.2.1),wrapS 160 3 (if p.2.2.2.1.length=0 then [] else elemS 48 (grpN p.2.2.2.1 p.2.2.2.1.length)),wrapS 160 4 (if p.2.2.2.2.length=0 then [] else elemS 48 (viaN p.2.2.2.2 p.2.2.2.2.length))]
def pacR(p:Pac):List UInt8:=elemS 48 (pacF p)
theorem z7e{g:List Int}(h:g.length≤70)(i:Nat):(grpN g i).flatten.length≤980:=by
 have h1:=q6m (B:=14) (grpN g i) (fun x hx=>by
  unfold grpN mapN at hx;rw [Bl] at hx;obtain ⟨y,_,rfl⟩:=hx
  exact z0b y)
 have h2:(grpN g i).length≤70:=by unfold grpN mapN;simp;omega
 have:14* (grpN g i).length≤14*70:=Bd _ h2;omega
theorem z7n{w:List Prin}(h:w.length≤20)(hs:∀x∈w,shS x)(i:Nat):(viaN w i).flatten.length≤8000:=by
 have h1:=q6m (B:=400) (viaN w i) (fun x hx=>by
  unfold viaN mapN at hx;rw [Bl] at hx;obtain ⟨y,hy,rfl⟩:=hx
  exact z2S (hs y (B8 hy)))
 have h2:(viaN w i).length≤20:=by unfold viaN mapN;simp;omega
 have:400* (viaN w i).length≤400*20:=Bd _ h2;omega
theorem j4G{p:Pac}(h:shC p):(pacF p).flatten.length≤9800∧(elemS 48 (grpN p.2.2.2.1 p.2.2.2.1.length)).length≤990∧(elemS 48 (viaN p.2.2.2.2 p.2.2.2.2.length)).length≤8010∧(pacR p).length≤9810:=by
 obtain ⟨h1,h2,h3,h4,_⟩:=h;have a1:=z2S h1;have a2:=z4s p.2.1;have a3:=z0b p.2.2.1;have a4:=z7e h2 p.2.2.2.1.length;have a5:=z7n h3 h4 p.2.2.2.2.length;have b4:=q0v 48 (grpN p.2.2.2.1 p.2.2.2.1.length);have b5:=q0v 48 (viaN p.2.2.2.2 p.2.2.2.2.length);have c4:(if p.2.2.2.1.length=0 then [] else elemS 48 (grpN p.2.2.2.1 p.2.2.2.1.length)).length≤990:=by split<;>first| (simp;done) |omega
 have c5:(if p.2.2.2.2.length=0 then [] else elemS 48 (viaN p.2.2.2.2 p.2.2.2.2.length)).length≤8010:=by split<;>first| (simp;done) |omega
 have w1:=q0y 160 0 (prinS p.1);have w2:=q0y 160 1 (timR p.2.1);have w3:=q0y 160 2 (intR p.2.2.1);have w4:=q0y 160 3 (if p.2.2.2.1.length=0 then [] else elemS 48 (grpN p.2.2.2.1 p.2.2.2.1.length));have w5:=q0y 160 4 (if p.2.2.2.2.length=0 then [] else elemS 48 (viaN p.2.2.2.2 p.2.2.2.2.length));have hF:(pacF p).flatten.length≤9800:=by
  unfold pacF;simp only [Aq,AB,Ai,Ac];omega
 have hR:=q0v 48 (pacF p);refine ⟨hF,by omega,by omega,?_⟩
 unfold pacR;omega
theorem j1e{p:Pac}(h:vPac p=true):pacS p=elemS 48 [wrapS 160 0 (prinS p.1),wrapS 160 1 (timeS p.2.1),wrapS 160 2 (intS p.2.2.1),wrapS 160 3 (listS (t:=I64) intS p.2.2.2.1),wrapS 160 4 (listS (t:=PrinT) prinS p.2.2.2.2)]:=by
 have hc:prinE p.1=prinS p.1:=by unfold prinE;simp only [vPac,Aj] at h;rw [if_pos h.1]
 have hw:listS (t:=PrinT) prinE p.2.2.2.2=listS (t:=PrinT) prinS p.2.2.2.2:=by
  have hm:mapN (t:=PrinT) prinE p.2.2.2.2 p.2.2.2.2.length=mapN (t:=PrinT) prinS p.2.2.2.2 p.2.2.2.2.length:=by
   unfold mapN;rw [AA];refine BM fun x hx=> ?_;simp only [vPac,Aj,A3] at h;unfold prinE;rw [if_pos (h.2.2.2.2.2.2 x hx)]
  unfold listS;rw [hm]
 unfold pacS;rw [hc,hw]
theorem z7i{p:Pac}(h:vPac p=true):pacR p=pacS p:=by
 rw [j1e h];simp only [vPac,Aj,decide_eq_true_eq,A3] at h;obtain ⟨_,ha,hu,_,_,hg,_⟩:=h;have hn:∀x,vNum x=true→0≤x∧x≤2147483647:=fun x hx=>by simpa [vNum,mIn] using hx
 have ht:0≤p.2.1∧p.2.1≤1099511627776:=by simpa [vTime,mIn] using ha
 have hu:=hn _ hu;have hg1:mapN (t:=I64) intR p.2.2.2.1 p.2.2.2.1.length=mapN (t:=I64) intS p.2.2.2.1 p.2.2.2.1.length:=by
  unfold mapN;rw [AA];refine BM fun x hx=>z3o ?_;obtain ⟨j,hj,rfl⟩:=AH hx;have:=q1v.1 hg j hj;simp only [grpAt,Aj,q3t hj] at this;have:=hn _ this.1;omega
 unfold pacR pacF listS grpN viaN;rw [j4b ht,z3o (by omega),hg1]
theorem grpV{g:List Int}(hg:allN g.length (grpAt g)=true):∀x∈g,0≤x∧x≤2147483647:=fun x hx=>by
 obtain ⟨j,hj,rfl⟩:=AH hx;have:=q1v.1 hg j hj;simp only [grpAt,Aj,q3t hj] at this;simpa [vNum,mIn] using this.1
theorem j1Z{p:Pac}(h:vPac p=true):shC p:=by
 simp only [vPac,Aj,decide_eq_true_eq,A3] at h;have hu:0≤p.2.2.1∧p.2.2.1≤2147483647:=by simpa [vNum,mIn] using h.2.2.1
 have hR:∀x:Int,0≤x∧x≤2147483647→ -9223372036854775808≤x∧x≤9223372036854775807:=fun x hx=>by omega
 exact ⟨j1W h.1,by omega,by omega,fun x hx=>j1W (h.2.2.2.2.2.2 x hx),hR _ hu,fun x hx=>hR _ (grpV h.2.2.2.2.2.1 x hx)⟩
theorem q8w(p:Pac)(hsh:shC p):PC Tryz.prog 10 [.agg (PacT.cells p)] (.isl .u8 (pacR p)):=by
 obtain ⟨z1,z2,z3,z4⟩:=j4G hsh;obtain ⟨h1,h2,h3,h4,hru,hrg⟩:=hsh;have hd:pacR p=elemS 48 (pacF p):=rfl;obtain ⟨c,a,u,g,w⟩:=p;unfold pacF at hd z1;generalize pacR (c,a,u,g,w)=ps at*;dsimp only at hd z1 z2 z3 h1 h2 h3 h4 hru hrg;have e1:=z2S h1;have e2:=z4s a;have e3:=z0b u;refine q0f rfl rfl ?_;refine rQ fi10 ?_;refine q2x 3 (.slice .u8) (grpN g) (fun i=>[(5,rI i)]) (List.length g) (fun _=>True) rfl (by simp) (by simp [grpN,mapN]) rfl (fun i=>rfl) ?_ fun i hi _=> ?_
 · with_reducible refine sxE ?_;trivial
 have hwr:=wsx i (by omega)
 have hln:(grpN g i).length=i:=q6X (t:=I64) (w:=intR) hi;by_cases hlt:i<List.length g
 · have hst:grpN g (i+1)=grpN g i++ [intR (g.getD i I64.dflt)]:=q5t (t:=I64) (w:=intR) hlt;have hz: -9223372036854775808≤(g.getD i I64.dflt:Int)∧(g.getD i I64.dflt:Int)≤9223372036854775807:=by
    have:=hrg _ (q0O (d:=I64.dflt) hlt);exact this
   refine gQ ?_;refine ⟨fun _=>⟨⟨by omega,hlt⟩,q0a (j2t _ hz) ?_⟩,fun h=>absurd hlt h⟩
   refine gQ ?_;refine ⟨⟨by omega,by omega⟩,q1z [_,_] [] hlt trivial (by rw [hst];rfl) ?_⟩
   with_reducible refine sx3 hwr hst ?_;trivial
 obtain rfl:i=List.length g:=by omega
 refine q0Q 1 rfl rfl (by omega) ?_ ?_ ?_
 · with_reducible refine sxE ?_;trivial
 · with_reducible refine sxE ?_
   exact Ag _
 with_reducible refine sxE ?_
 rw [Aa (Ag _)];refine gQ ?_;refine ⟨fun h=>absurd h hlt,fun _=> ?_⟩;have hfg:=z7e h2 (List.length g);have hfw:=z7n h3 h4 (List.length w);clear hwr hi;refine q2x 4 (.slice .u8) (viaN w) (fun i=>[(6,rI i)]) (List.length w) (fun _=>True) rfl (by simp) (by simp [viaN,mapN]) rfl (fun i=>rfl) ?_ fun k hk _=> ?_
 · with_reducible refine sxE ?_;trivial
 have hwr:=wsx k (by omega)
 have hlk:(viaN w k).length=k:=q6X (t:=PrinT) (w:=prinS) hk;by_cases hlt2:k<List.length w
 · have hst:viaN w (k+1)=viaN w k++ [prinS (w.getD k PrinT.dflt)]:=q5t (t:=PrinT) (w:=prinS) hlt2;refine gQ ?_;refine ⟨fun _=>⟨⟨by omega,hlt2⟩,q0a (z7x (w.getD k PrinT.dflt) (j5m (h4 _ (q0O hlt2)))) ?_⟩,fun h=>absurd hlt2 h⟩
   refine gQ ?_;refine ⟨⟨by omega,by omega⟩,q1z [_,_] [] hlt2 trivial (by rw [hst];rfl) ?_⟩
   with_reducible refine sx3 hwr hst ?_;trivial
 obtain rfl:k=List.length w:=by omega
 refine q0Q 2 rfl rfl (by omega) ?_ ?_ ?_
 · with_reducible refine sxE ?_;trivial
 · with_reducible refine sxE ?_
   exact Ag _
 with_reducible refine sxE ?_
 rw [Aa (Ag _)];have hq1:(((grpN g (List.length g)).length:Int)=0)=(List.length g=0):=by rw [hln];exact propext ⟨fun h=>by omega,fun h=>by omega⟩
 have hq2:(((viaN w (List.length w)).length:Int)=0)=(List.length w=0):=by rw [hlk];exact propext ⟨fun h=>by omega,fun h=>by omega⟩
 have f4:(if List.length g=0 then [] else elemS 48 (grpN g (List.length g))).length≤990:=by split<;>first| (simp;done) |omega
 have f5:(if List.length w=0 then [] else elemS 48 (viaN w (List.length w))).length≤8010:=by split<;>first| (simp;done) |omega
 have hz: -9223372036854775808≤u∧u≤9223372036854775807:=hru;refine gy2 hq1 hq2 ?_;refine ⟨fun h=>absurd h hlt2,fun _=>q0d (z7x c (j5m h1)) ?_⟩;refine gQ ?_;refine cR (q3c 0 (by decide) _ (by omega)) ?_
 refine cR (j3t a) ?_;refine cR (q3c 1 (by decide) _ (by omega)) ?_
 refine cR (j2t u hz) ?_;refine cR (q3c 2 (by decide) _ (by omega)) ?_
 refine cR (q7O (grpN g (List.length g)) (by omega) (by omega)) ?_
 refine cR (z2k (decide (List.length g=0)) _) ?_;refine cR (q3c 3 (by decide) _ (Am f4 (by decide))) ?_
 refine cR (q7O (viaN w (List.length w)) (by omega) (by omega)) ?_
 refine cR (z2k (decide (List.length w=0)) _) ?_;refine cR (q3c 4 (by decide) _ (Am f5 (by decide))) ?_
 refine q0A 3 (by decide) ?_
 with_reducible refine sxE ?_
 refine cR (q7O _ (by simp) (by omega)) ?_
 exact hd.symm
set_option maxHeartbeats 4000000
theorem z7E{k:Key}(h:keyOk k):elemS 48 [wrapS 160 0 (intS k.1),wrapS 160 1 (intS k.2.1),wrapS 160 2 (elemS 4 [k.2.2])]=keyS k:=by
 obtain ⟨a,v,c⟩:=k;obtain ⟨ha,hv,hc⟩:=h;obtain ⟨hS,hl⟩:=q6R a v c ha hv hc;have e:([wrapS 160 0 (intS a),wrapS 160 1 (intS v),wrapS 160 2 (elemS 4 [c])]:List (List UInt8)).flatten=sufS [intS a,intS v,elemS 4 [c]] 0 3:=by
  rw [q0S,q0S,q0S];simp [sufS]
 rw [hS];show elemS 48 [wrapS 160 0 (intS a),wrapS 160 1 (intS v),wrapS 160 2 (elemS 4 [c])]=_;rw [q1F (by rw [e];exact hl),e]
theorem j4u(x:List UInt8):(eltR x).length≤x.length:=Am (q4D _ _) (q2o x)
theorem j3C{x y:List UInt8}(h:y∈eltR x):y.length≤x.length:=Am (q3M _ _ y h).2 (q2o x)
theorem z2Z{t:Ty}{f:List UInt8→t.den}{x:List UInt8}(hx:x.length≤1048576)(h:∀y,y.length≤1048576→t.ok (f y)):(Ty.slice t).ok ((eltR x).map f):=by
 refine ⟨by rw [Be];have:=j4u x;omega,fun z hz=> ?_⟩
 obtain ⟨y,hy,rfl⟩:=Bl.1 hz;exact h y (Am (j3C hy) hx)
theorem z6G{y:List UInt8}(h:y.length≤1048576):(Ty.str).ok (sR y):=by
 have:=z8R y;show (sR y).size≤_;omega
theorem z1L{y:List UInt8}(n:Nat)(h:y.length≤1048576):(itmR y n).length≤1048576:=Am (q1s y n) h
theorem z2z{y:List UInt8}(h:y.length≤1048576):PrinT.ok (prnR y):=⟨z2Z (t:=.str) (z1L 0 h) fun _ hz=>z6G hz,z6G (z1L 1 h)⟩
theorem j3I{y:List UInt8}(h:y.length≤1048576):(Ty.slice PrinT).ok (nmsR y):=z2Z (t:=PrinT) h fun _ hz=>z2z hz
set_option maxHeartbeats 40000000
def itN(l:List (List UInt8))(i:Nat):List Int:=(l.take i).map fun x=>(gIntR x:Int)
theorem j1c{l:List (List UInt8)}{i:Nat}(h:i<l.length):itN l (i+1)=itN l i++ [(gIntR (l.getD i (Ty.slice .u8).dflt):Int)]:=by unfold itN;rw [q0Y (d:=(Ty.slice .u8).dflt) h];simp
theorem j3T{l:List (List UInt8)}{i:Nat}(h:i≤l.length):(itN l i).length=i:=by simp [itN];omega
theorem j3R(l:List (List UInt8)):itN l l.length=l.map fun x=>(gIntR x:Int):=by unfold itN;rw [AA]
theorem j2J{b:List UInt8}(hb:b.length≤1048576):PacT.ok (pacG b):=⟨z2z (z1L 0 hb),trivial,trivial,z2Z (t:=I64) (z1L 3 hb) (fun _ _=>trivial),j3I (z1L 4 hb)⟩
theorem z7O(b:List UInt8)(hb:b.length≤1048576):PC Tryz.prog 23 [.isl .u8 b] (.tup [.agg (PacT.cells ((decPc b).getD PacT.dflt)),rI (if (decPc b).isSome then 0 else 6)]):=by
 have hd:decPc b=if vPac (pacG b)=true∧pacS (pacG b)=b then some (pacG b) else none:=(z9w b).symm;generalize decPc b=R at*;have hok:=j2J hb;have hE:pacG b=(prnR (itmR b 0),(gIntR (itmR b 1):Int),(gIntR (itmR b 2):Int),(elsR (conR (itmR b 3)).length (conR (itmR b 3))).map (fun x=>(gIntR x:Int)),(elsR (conR (itmR b 4)).length (conR (itmR b 4))).map prnR):=rfl;have q0:=q1s b 0;have q1:=q1s b 1;have q2:=q1s b 2;have q3:=q1s b 3;have q4:=q1s b 4;have c0:=q8Q (itmR b 0) (by omega)
 have c1:=q5J (itmR b 1) (by omega)
 have c2:=q5J (itmR b 2) (by omega)
 have d4:=q1D (itmR b 3) (by omega)
 have dl4:=q2o (itmR b 3);have e4:=q4i (conR (itmR b 3)) (by omega)
 have hm4:=q3M (conR (itmR b 3)).length (conR (itmR b 3));have hle4:=q4D (conR (itmR b 3)).length (conR (itmR b 3));have d15:=q1D (itmR b 4) (by omega)
 have dl15:=q2o (itmR b 4);have e15:=q4i (conR (itmR b 4)) (by omega)
 have hm15:=q3M (conR (itmR b 4)).length (conR (itmR b 4));have hle15:=q4D (conR (itmR b 4)).length (conR (itmR b 4));generalize pacG b=X at*;generalize prnR (itmR b 0)=x0 at*;generalize gIntR (itmR b 1)=x1 at*;generalize gIntR (itmR b 2)=x2 at*;generalize elsR (conR (itmR b 3)).length (conR (itmR b 3))=l4 at*;generalize elsR (conR (itmR b 4)).length (conR (itmR b 4))=l15 at*;refine q0f rfl (by cases R<;>rfl) ?_
 refine rQ fi23 ?_;refine cQ (q3o b 0 (by omega) (by omega)) ?_
 refine cQ c0 ?_;refine cQ (q3o b 1 (by omega) (by omega)) ?_
 refine cQ c1 ?_;refine cQ (q3o b 2 (by omega) (by omega)) ?_
 refine cQ c2 ?_;refine cQ (q3o b 3 (by omega) (by omega)) ?_
 refine cQ d4 ?_;refine cQ e4 ?_;refine cQ (q3o b 4 (by omega) (by omega)) ?_
 refine cQ d15 ?_;refine cQ e15 ?_;refine q1E 1 4 (I64) rfl rfl rfl ?_;with_reducible refine sxE ?_
 refine q0i (ι:=Nat×List SObj) (fun s=>[(7,rI s.1)]) (fun s=>[.cells 28 [.raw (.slice none 0 0),rS ⟨#[]⟩,rI 0,rI 0,.raw (.slice none 0 0),.raw (.slice none 0 0)],.cells 28 [.isl .str x0.1,rS x0.2,rI (x1:Nat),rI (x2:Nat),.bld (s.2.length+2) (I64) (itN l4 s.1).length,.raw (.slice none 0 0)]]++s.2++ [.row (I64) (itN l4 s.1)]) (fun s=>l4.length-s.1) (fun s=>s.1≤l4.length) (0,[]) (Ak _) rfl ?_ ?_
 · with_reducible refine sxE ?_;trivial
 rintro ⟨i,G⟩ hi;dsimp only at hi;have hwr:=wsx i (by omega)
 have hln:=j3T hi;refine uQ 12 _ ?_;with_reducible refine sxaE ?_
 refine ⟨fun hlt=> ?_,fun hge=> ?_⟩
 · have hmm:=hm4 _ (q0O (d:=(Ty.slice .u8).dflt) hlt);have hst:=j1c hlt;refine q2t [1] mixed ?_;refine aQ ?_;refine ⟨⟨by omega,hlt⟩,q0d (q5J _ (by omega)) ?_⟩
   refine aQ ?_;refine ⟨⟨by omega,by omega⟩,(i+1,G++ [.dead,.row (I64) [((gIntR (l4.getD i (Ty.slice .u8).dflt):Nat):Int)]]),by dsimp only;omega,by dsimp only;omega,?_,?_⟩
   · simp [hst]
   with_reducible refine sya1 hwr ?_;trivial
 obtain rfl:i=l4.length:=by omega
 refine q3f (ty:=I64) (xs:=itN l4 l4.length) [.cells 28 [.raw (.slice none 0 0),rS ⟨#[]⟩,rI 0,rI 0,.raw (.slice none 0 0),.raw (.slice none 0 0)],.cells 28 [.isl .str x0.1,rS x0.2,rI (x1:Nat),rI (x2:Nat),.bld (G.length+2) (I64) (itN l4 l4.length).length,.raw (.slice none 0 0)]] [.cells 28 [.raw (.slice none 0 0),rS ⟨#[]⟩,rI 0,rI 0,.raw (.slice none 0 0),.raw (.slice none 0 0)],.cells 28 [.isl .str x0.1,rS x0.2,rI (x1:Nat),rI (x2:Nat),.bld 2 (I64) (itN l4 l4.length).length,.raw (.slice none 0 0)]] G rfl (by simp) (by simp) ?_ (by rfl) ?_ ?_ ?_
 · simp [SObj.ren,SV.ren,SV.renL,shift,Ba]
 · rfl
 · with_reducible refine sxE ?_;trivial
 with_reducible refine sxE ?_
 refine q0Q 2 rfl rfl (by omega) ?_ ?_ ?_
 · with_reducible refine sxE ?_
   exact Ag _
 · with_reducible refine sxE ?_;trivial
 with_reducible refine sxE ?_
 rw [Aa (Ag _),j3R];clear hi hwr hln hge;generalize l4.map (fun x=>(gIntR x:Int))=v4 at*;refine gQ ?_;refine q1E 1 5 (PrinT) rfl rfl rfl ?_;with_reducible refine sxE ?_
 refine q0i (ι:=Nat×List SObj) (fun s=>[(8,rI s.1)]) (fun s=>[.cells 28 [.raw (.slice none 0 0),rS ⟨#[]⟩,rI 0,rI 0,.raw (.slice none 0 0),.raw (.slice none 0 0)],.cells 28 [.isl .str x0.1,rS x0.2,rI (x1:Nat),rI (x2:Nat),.isl I64 v4,.bld (s.2.length+3) (PrinT) (pnN l15 s.1).length],.dead]++s.2++ [.row (PrinT) (pnN l15 s.1)]) (fun s=>l15.length-s.1) (fun s=>s.1≤l15.length) (0,[]) (Ak _) rfl ?_ ?_
 · with_reducible refine sxE ?_;trivial
 rintro ⟨i,G⟩ hi;dsimp only at hi;have hwr:=wsx i (by omega)
 have hln:=j4o hi;refine uQ 12 _ ?_;with_reducible refine sxaE ?_
 refine ⟨fun hlt=> ?_,fun hge=> ?_⟩
 · have hmm:=hm15 _ (q0O (d:=(Ty.slice .u8).dflt) hlt);have hst:=j0r hlt;have hos:=(z2z (y:=l15.getD i (Ty.slice .u8).dflt) (by omega)).2
   refine q2t [1] mixed ?_;refine aQ ?_;refine ⟨⟨by omega,hlt⟩,q0d (q8Q _ (by omega)) ?_⟩
   refine aQ ?_;refine ⟨hos,⟨by omega,by omega⟩,(i+1,G++ [.dead,.row (PrinT) [prnR (l15.getD i (Ty.slice .u8).dflt)]]),by dsimp only;omega,by dsimp only;omega,?_,?_⟩
   · simp [hst]
   with_reducible refine sya1 hwr ?_;trivial
 obtain rfl:i=l15.length:=by omega
 refine q3f (ty:=PrinT) (xs:=pnN l15 l15.length) [.cells 28 [.raw (.slice none 0 0),rS ⟨#[]⟩,rI 0,rI 0,.raw (.slice none 0 0),.raw (.slice none 0 0)],.cells 28 [.isl .str x0.1,rS x0.2,rI (x1:Nat),rI (x2:Nat),.isl I64 v4,.bld (G.length+3) (PrinT) (pnN l15 l15.length).length],.dead] [.cells 28 [.raw (.slice none 0 0),rS ⟨#[]⟩,rI 0,rI 0,.raw (.slice none 0 0),.raw (.slice none 0 0)],.cells 28 [.isl .str x0.1,rS x0.2,rI (x1:Nat),rI (x2:Nat),.isl I64 v4,.bld 3 (PrinT) (pnN l15 l15.length).length],.dead] G rfl (by simp) (by simp) ?_ (by rfl) ?_ ?_ ?_
 · simp [SObj.ren,SV.ren,SV.renL,shift,Ba]
 · rfl
 · with_reducible refine sxE ?_;trivial
 with_reducible refine sxE ?_
 refine q0Q 3 rfl rfl (by omega) ?_ ?_ ?_
 · with_reducible refine sxE ?_
   exact Ag _
 · with_reducible refine sxE ?_;trivial
 with_reducible refine sxE ?_
 rw [Aa (Ag _),j3D];clear hi hwr hln hge;generalize l15.map prnR=v15 at*;refine gQ ?_;subst hE;refine q0d (q7M _ hok) ?_;cases hv:vPac (x0,((x1:Nat):Int),((x2:Nat):Int),v4,v15) with
 |false=>
  have hR:R=none:=by rw [hd,if_neg (by rw [hv];simp)]
  subst hR;refine gQ ?_;exact ⟨⟨rfl,rfl,rfl,rfl,rfl,rfl⟩,rfl⟩
 |true=>
  refine gQ ?_;have ce:=q8w (x0,((x1:Nat):Int),((x2:Nat):Int),v4,v15) (j1Z hv);rw [z7i hv] at ce;refine cR ce ?_;refine ⟨fun q=> ?_,fun q=> ?_⟩
  · have hne:¬pacS (x0,((x1:Nat):Int),((x2:Nat):Int),v4,v15)=b:=fun e=>q (by rw [e])
    have hR:R=none:=by rw [hd,if_neg (fun h=>hne h.2)]
    subst hR;exact ⟨⟨rfl,rfl,rfl,rfl,rfl,rfl⟩,rfl⟩
  have he:pacS (x0,((x1:Nat):Int),((x2:Nat):Int),v4,v15)=b:=by simpa [strOf] using q
  have hR:R=some (x0,((x1:Nat):Int),((x2:Nat):Int),v4,v15):=by rw [hd,if_pos ⟨hv,he⟩]
  subst hR;exact ⟨⟨rfl,rfl,rfl,rfl,rfl,rfl⟩,rfl⟩
def SumC:Prop:=∀ (k:Key) (u:Nat) (x:List UInt8),KeyT.ok k→uOk k u=true→x.length≤1048576→PC Tryz.prog 98 [.agg (KeyT.cells k),rI u,.isl .u8 x] (.tup [.isl .u8 (smS k u x),rI 0])
theorem z6k(hS:SumC)(k:Key)(u:Nat)(x:List UInt8)(ho:KeyT.ok k)(hu:uOk k u=true)(hx:x.length≤1048576):PC Tryz.prog 48 [.agg (KeyT.cells k),rI u,.isl .u8 x] (.agg (KeyT.cells (sigK k u x))):=by
 have h:=hS k u x ho hu hx;unfold sigK;generalize smS k u x=w at*;obtain ⟨p,v,b⟩:=k;refine q0f rfl rfl ?_;refine rQ fi48 ?_;refine cQ h ?_;trivial
theorem j3F(k:Key)(h:vKey k=true):PC Tryz.prog 158 [.agg (KeyT.cells k)] (.isl .u8 (keyS k)):=by
 have hl:=q1M h;have h2:0≤k.2.1∧k.2.1≤65535:=by unfold vKey at h;simp only [Aj,decide_eq_true_eq] at h;exact h.2.2
 have h1:0≤k.1∧k.1≤2:=by unfold vKey keyLen at h;simp only [Aj,decide_eq_true_eq] at h;grind
 have:=j5G k ⟨h1.1,Cv h1.2 (by decide)⟩ ⟨h2.1,Cv h2.2 (by decide)⟩ (by omega)
 rwa [z7E (q6v h)] at this
theorem z5j(k:Key)(h:vKey k=true):PC Tryz.prog 99 [.agg (KeyT.cells k)] (.isl .u8 (keyS k)):=by
 have hk:=j3F k h;generalize keyS k=y at*;obtain ⟨p,v,b⟩:=k;refine q0f rfl rfl ?_;refine rQ fi99 ?_;refine cQ hk ?_;trivial
theorem z4V(b:List UInt8)(hb:b.length≤1048576):PC Tryz.prog 59 [.isl .u8 b] (.agg (KeyT.cells (keyR b))):=by
 have hk:=z7a b hb;generalize keyR b=k at*;refine q0f rfl rfl ?_;refine rQ fi59 ?_;refine cQ hk ?_;trivial
theorem j2w{k:Key}(h:vKey k=true):(keyS k).length≤100:=by
 have hl:=(q1M h).1;have g1:=q1a k.1;have g2:=q1a k.2.1;have g3:=q0v 4 [k.2.2];simp only [Aq,AB,Ai] at g3;have g5:=q0y 160 0 (intS k.1);have g6:=q0y 160 1 (intS k.2.1);have g7:=q0y 160 2 (elemS 4 [k.2.2]);have g8:=q0v 48 [wrapS 160 0 (intS k.1),wrapS 160 1 (intS k.2.1),wrapS 160 2 (elemS 4 [k.2.2])];simp only [Aq,AB,Ai,Ac] at g8;rw [←z7E (q6v h)];omega
theorem z1V(y:List UInt8)(f g:Key)(hf:vKey f=true)(hg:vKey g=true)(hy:y.length≤524288):PC Tryz.prog 49 [.isl .u8 y,.agg (KeyT.cells f),.agg (KeyT.cells g)] (.isl .u8 (sgnR y f g)):=by
 have h1:=z5j f hf;have h2:=z5j g hg;have l1:=j2w hf;have l2:=j2w hg;unfold sgnR;generalize keyS f=kf at*;generalize keyS g=kg at*;have g5:=q0y 160 0 y;have g6:=q0y 160 1 kf;have g7:=q0y 160 2 kg;obtain ⟨f1,f2,f3⟩:=f;obtain ⟨g1,g2,g3⟩:=g;refine q0f rfl rfl ?_;refine rQ fi49 ?_;refine cR (q3c 0 (by decide) y (by omega)) ?_
 refine cR h1 ?_;refine cR (q3c 1 (by decide) kf (by omega)) ?_
 refine cR h2 ?_;refine cR (q3c 2 (by decide) kg (by omega)) ?_
 refine q0A 2 (by decide) ?_
 with_reducible refine sxE ?_
 refine cR (q7O _ (by simp) (by simp only [Aq,AB,Ai,Ac];omega)) ?_;trivial
theorem z7X(k:Key):PC Tryz.prog 57 [.agg (KeyT.cells k)] (rB (noK k)):=by
 obtain ⟨p,v,b⟩:=k;refine q0p rfl rfl ?_;refine rQ fi57 ?_
 grind [noK]
theorem z9h(s:Key):PC Tryz.prog 60 [.agg (KeyT.cells s)] (rB (vKey s)):=by
 obtain ⟨p,v,b⟩:=s;have hk:=j0B p;have hi:=z2F v 0 65535;have hd:vKey (p,v,b)=(decide (keyLen p≠0) && (inR v 0 65535&& decide ((b.length:Int)=keyLen p))):=by
  unfold vKey inR;rw [Bv];simp only [Aj,decide_eq_true_eq]
  grind
 have hv:PC Tryz.prog 116 [.agg (KeyT.cells (p,v,b))] (rB (decide (keyLen p≠0) && (inR v 0 65535&& decide ((b.length:Int)≤65536)))):=by
  have hg:decide (keyLen p≠0)=decide (0<keyLen p):=by
   have:0≤keyLen p:=by unfold keyLen;split<;> (try split) <;>omega
   by_cases h0:keyLen p=0
   · rw [h0];rfl
   rw [decide_eq_true h0,decide_eq_true (show 0<keyLen p by omega)]
  rw [hg];generalize keyLen p=n at*;generalize inR v 0 65535=q at*;refine q0p rfl rfl ?_;refine rQ fi116 ?_<;>try with_reducible exact True.intro
  repeat' (first
   | (refine q0a (hk) ?_;refine uQ 600 _ ?_;simp (maxSteps:=3000000) only [go_sem,↓zA,↓reduceIte,↓reduceDIte] <;>try simp only [zB])
   | (refine q0d (hk) ?_;refine uQ 600 _ ?_;simp (maxSteps:=3000000) only [go_sem,↓zA,↓reduceIte,↓reduceDIte] <;>try simp only [zB])
   | (refine q0q (hk) ?_;refine uQ 600 _ ?_;simp (maxSteps:=3000000) only [go_sem,↓zA,↓reduceIte,↓reduceDIte] <;>try simp only [zB])
   | (refine q0a (hi) ?_;refine uQ 600 _ ?_;simp (maxSteps:=3000000) only [go_sem,↓zA,↓reduceIte,↓reduceDIte] <;>try simp only [zB])
   | (refine q0d (hi) ?_;refine uQ 600 _ ?_;simp (maxSteps:=3000000) only [go_sem,↓zA,↓reduceIte,↓reduceDIte] <;>try simp only [zB])
   | (refine q0q (hi) ?_;refine uQ 600 _ ?_;simp (maxSteps:=3000000) only [go_sem,↓zA,↓reduceIte,↓reduceDIte] <;>try simp only [zB])
   | (with_reducible refine And.intro ?_ ?_)
   | (with_reducible intro _))
  all_goals (grind)
 rw [hd];have hm:keyLen p≠0→IntKind.i64.wrap (16*p)=keyLen p:=fun h=>by
  unfold keyLen at*;split at h
  · rename_i e;rw [if_pos e,e];decide
  rename_i e;rw [if_neg e];split at h
  · rename_i e;rw [if_pos e,e];decide
  exact absurd rfl h
 have h32:keyLen p≤32:=by unfold keyLen;split<;> (try split) <;>omega
 generalize keyLen p=n at*;generalize inR v 0 65535=q at*;by_cases h0:n=0
 · rw [decide_eq_false (fun h=>h h0),AR] at hv⊢;refine q0p rfl rfl ?_;refine rQ fi60 ?_;refine cQ hv ?_;trivial
 rw [decide_eq_true h0,AE] at hv⊢;refine q0p rfl rfl ?_;refine rQ fi60 ?_;refine q0a hv ?_;have hm:=hm h0;cases q
 · refine gQ ?_;trivial
 by_cases h6:(b.length:Int)≤65536
 · rw [decide_eq_true h6];refine gy1 hm ?_;trivial
 rw [decide_eq_false h6,decide_eq_false (show ¬(b.length:Int)=n by omega)]
 refine gQ ?_;trivial
theorem z4W(hS:SumC)(s k:Key)(u:Nat)(x:List UInt8)(ho:KeyT.ok k)(hu:uOk k u=true)(hx:x.length≤1048576):PC Tryz.prog 61 [.agg (KeyT.cells s),.agg (KeyT.cells k),rI u,.isl .u8 x] (rB (fitK k s&& decide (smS k u x=s.2.2))):=by
 have h:=z6k hS k u x ho hu hx;have e:sigK k u x=(k.1,k.2.1,smS k u x):=rfl;rw [e] at h;generalize smS k u x=w at*;clear e hu ho;obtain ⟨p,v,b⟩:=k;obtain ⟨sp,sv,sb⟩:=s;unfold fitK;refine q0p rfl rfl ?_;refine rQ fi61 ?_<;>try with_reducible exact True.intro
 repeat' (first
  | (refine q0a (h) ?_;refine uQ 600 _ ?_;simp (maxSteps:=3000000) only [go_sem,↓zA,↓reduceIte,↓reduceDIte] <;>try simp only [zB])
  | (refine q0d (h) ?_;refine uQ 600 _ ?_;simp (maxSteps:=3000000) only [go_sem,↓zA,↓reduceIte,↓reduceDIte] <;>try simp only [zB])
  | (refine q0q (h) ?_;refine uQ 600 _ ?_;simp (maxSteps:=3000000) only [go_sem,↓zA,↓reduceIte,↓reduceDIte] <;>try simp only [zB])
  | (with_reducible refine And.intro ?_ ?_)
  | (with_reducible intro _))
 all_goals (simp_all [z1B])
theorem z3E(hS:SumC)(p:Pac)(s r:Key)(ho:PacT.ok p)(hs:KeyT.ok s)(hr:KeyT.ok r):PC Tryz.prog 14 [.agg (PacT.cells p),.agg (KeyT.cells s),.agg (KeyT.cells r)] (.tup [.isl .u8 (signS p s r).1,rI (signS p s r).2]):=by
 have c1:=q7M p ho;have c2:=z9R s;have c3:=z9R r;unfold signS;cases h1:vPac p with
 |false=>
  rw [h1] at c1;obtain ⟨c,a,u,g,w⟩:=p;refine q0f rfl rfl ?_;refine rQ fi14 ?_;refine cQ c1 ?_;trivial
 |true=>
 cases h2:vKey s with
 |false=>
  rw [h1] at c1;rw [h2] at c2;obtain ⟨c,a,u,g,w⟩:=p;obtain ⟨s1,s2,s3⟩:=s;refine q0f rfl rfl ?_;refine rQ fi14 ?_;refine cQ c1 ?_;refine cQ c2 ?_;trivial
 |true=>
 cases h3:vKey r with
 |false=>
  rw [h1] at c1;rw [h2] at c2;rw [h3] at c3;obtain ⟨c,a,u,g,w⟩:=p;obtain ⟨s1,s2,s3⟩:=s;obtain ⟨r1,r2,r3⟩:=r;refine q0f rfl rfl ?_;refine rQ fi14 ?_;refine cQ c1 ?_;refine cQ c2 ?_;refine cQ c3 ?_;trivial
 |true=>
  have hsl:=q4W s 17 (pacS p) (q1M h2).1;have hs32:=(q1M h2).1;have hpl:=(z0G h1).1;have c4:=q8w p (j1Z h1);rw [z7i h1] at c4;have c5:=z6k hS s 17 (pacS p) hs (q9g h2 (by decide)) (by omega)
  have c6:=z6k hS r 18 (smS s 17 (pacS p)) hr (q9g h3 (by decide)) (by omega)
  have c7:=z1V (pacS p) (sigK s 17 (pacS p)) (sigK r 18 (smS s 17 (pacS p))) (z5l _ _ h2) (z5l _ _ h3) (by omega)
  have hX:sgnS (signX p s r)=sgnR (pacS p) (sigK s 17 (pacS p)) (sigK r 18 (smS s 17 (pacS p))):=rfl;rw [hX];generalize sgnR (pacS p) (sigK s 17 (pacS p)) (sigK r 18 (smS s 17 (pacS p)))=y at*;clear hX;have e5:sigK s 17 (pacS p)=(s.1,s.2.1,smS s 17 (pacS p)):=rfl;have e6:sigK r 18 (smS s 17 (pacS p))=(r.1,r.2.1,smS r 18 (smS s 17 (pacS p))):=rfl;rw [e5] at c5 c7;rw [e6] at c6 c7;clear e5 e6;rw [h1] at c1;rw [h2] at c2;rw [h3] at c3;generalize pacS p=w at*;generalize smS s 17 w=m1 at*;generalize smS r 18 m1=m2 at*;obtain ⟨c,a,u,g,w⟩:=p;obtain ⟨s1,s2,s3⟩:=s;obtain ⟨r1,r2,r3⟩:=r;refine q0f rfl rfl ?_;refine rQ fi14 ?_;refine cQ c1 ?_;refine cQ c2 ?_;refine cQ c3 ?_;refine q0q c4 ?_;refine gQ ?_;refine q0q c5 ?_;refine gQ ?_;refine cR c4 ?_;refine cR c6 ?_;refine q0d c7 ?_;by_cases hy:4096<y.length
  · rw [if_pos hy];have f1:(4096< (y.length:Int))=True:=eq_true (by omega)
    refine gy1 f1 ?_;trivial
  rw [if_neg hy];have f1:(4096< (y.length:Int))=False:=eq_false (by omega)
  refine gy1 f1 ?_;trivial
end Go.Proofs.YtmapiojgmbgbgaaGreatDoor
