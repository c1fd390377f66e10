/- Contracts: the reference's encodings of any values, valid or not. -/
import Derived.Test.YtmapiojgmbgbgaaGreatDoorP30
set_option linter.all false
namespace Go.Proofs.YtmapiojgmbgbgaaGreatDoor
open Go Go.Sx Go.Proofs
set_option maxRecDepth 100000
set_option maxHeartbeats 4000000
theorem z1k(x:Int):UInt8.ofNat (IntKind.u8.wrap (x.tmod 256)).toNat=byteOf x:=by
 unfold byteOf;rw [u8w,u8w];have h:x.tmod 256%256=x%256:=by rw [Int.tmod_def];omega
 rw [h]
theorem j5B(v:Int)(n:Nat)(hn:n≤7):PC Tryz.prog 86 [rI v,rI n] (.isl .u8 (numS v n)):=by
 have hl:(numS v n).length=n:=by simp [numS]
 have w0:IntKind.i64.wrap ((n:Int) -1)=(n:Int) -1:=wrapi (by omega)
 refine q0f rfl rfl ?_;refine ry1 fi86 w0 ?_;refine q2I 5 .u8 (fun k=>(numS v n).take k) (fun k=>[(6,rI ((n:Int) -1-k))]) n (fun _=>True) rfl (by simp) (by simp) rfl (fun i=>rfl) ?_ fun k hk _=> ?_
 · with_reducible refine sxE ?_
   simp
 have hln:((numS v n).take k).length=k:=by simp [numS];omega
 have w1:IntKind.i64.wrap (8* ((n:Int) -1-k))=8* ((n:Int) -1-k):=wrapi (by omega)
 have w2:IntKind.i64.wrap ((n:Int) -1-k-1)=(n:Int) -1- ((k+1:Nat):Int):=by rw [wrapi (by omega)];omega
 refine gy2 w1 w2 ?_;refine ⟨fun hlt=> ?_,fun hge=> ?_⟩
 · have hkn:k<n:=by omega
   have hst:=z8y (v:=v) hkn;have e8:(8* ((n:Int) -1-k)).toNat=8* (n-1-k):=by omega
   have hb:UInt8.ofNat (IntKind.u8.wrap ((v.fdiv (2^ min (8* (n-1-k)) 64)).tmod 256)).toNat=byteAt v (n-1-k):=z1k _;rw [e8,hb];refine ⟨by omega,by decide,by rw [←hb];exact q0Y _,⟨by omega,by omega⟩,q1C [_,_] [] hkn trivial (by rw [hst];rfl) ?_⟩
   simp (maxSteps:=3000000) only [hst,Af,go_sem,↓zA,↓reduceIte,↓reduceDIte] <;>try simp only [zB]
 obtain rfl:k=n:=by omega
 refine ⟨⟨Ag _,by omega⟩,?_⟩
 rw [Aa (by omega),Aa (by omega)]
def timR(t:Int):List UInt8:=elemS 24 [numS t 6]
theorem j3E(t:Int):PC Tryz.prog 41 [rI t] (.isl .u8 (timR t)):=by
 refine q0f rfl rfl ?_;refine rQ fi41 ?_;refine cQ (j5B t 6 (by decide)) ?_
 refine cQ (q9s 24 24 (by decide) _ (by simp [numS])) ?_
 rfl
theorem j2k{t:Int}(h:0≤t∧t≤1099511627776):timR t=timeS t:=by unfold timeS timR;rw [if_pos h]
theorem z3U(t:Int):(timR t).length≤11:=by
 unfold timR;rw [q1Z (by rw [q0B];decide),q1k,q0B];decide
def negB(v:Int):List UInt8:=if 128≤(byteOf v).toNat then [0,byteOf v] else [byteOf v]
def intR(v:Int):List UInt8:=if 0≤v∧v≤4611686018427387904 then intS v else if v<0 then elemS 2 [negB v] else elemS 2 [numS v 8]
theorem z3d{v:Int}(h:0≤v∧v≤4611686018427387904):intR v=intS v:=if_pos h
theorem z0h(v:Int):(intR v).length≤14:=by
 unfold intR;split
 · exact q1F v
 have h1:=q0x 2 [negB v];have h2:=q0x 2 [numS v 8];simp only [Av,AE,Aj,q0B] at h1 h2;have h3:(negB v).length≤2:=by unfold negB;split<;>simp
 split<;>omega
theorem j4p(v:Int)(h0:v<0)(h1: -9223372036854775808≤v):PC Tryz.prog 37 [rI v] (.isl .u8 (intR v)):=by
 have hr:intR v=elemS 2 [negB v]:=by unfold intR;rw [if_neg (by omega),if_pos h0]
 obtain ⟨n,hn⟩:∃n:Nat,v= -(n:Int):=⟨(-v).toNat,by omega⟩
 have ht:v.tdiv 256= -((n / 256:Nat):Int):=by rw [hn,Int.neg_tdiv,show (256:Int)=((256:Nat):Int) from rfl,z2n]
 have hd:v.tdiv 256≤0:=by omega
 have hd1: -9223372036854775808≤v.tdiv 256:=by omega
 have q0:IntKind.i64.wrap (v.tdiv 256)=v.tdiv 256:=wrapi (by omega)
 rw [hr];refine q0f rfl rfl ?_;refine ry1 fi37 q0 ?_;refine ⟨by decide,q0Y _,by decide,?_⟩
 rw [z1k];refine q0s (ι:=Unit) (fun _=>[(0,rI (v.tdiv 256)),(3,.bld 0 .u8 1)]) (fun _=>[.row .u8 [byteOf v]]) (fun _=>0) (fun _=>True) () trivial rfl ?_ ?_
 · with_reducible refine sxE ?_;trivial
 rintro ⟨⟩ _;refine gQ ?_;refine ⟨fun h=>absurd h (by omega),fun _=> ?_⟩
 unfold negB;refine ⟨fun h128=>⟨rfl,?_⟩,fun h128=> ?_⟩
 · rw [if_pos (by omega)]
   refine q0o 2 ?_;with_reducible refine sxE ?_
   refine cQ (q9s 2 2 (by decide) _ (by simp)) ?_
   rfl
 rw [if_neg (by omega)]
 refine q0o 0 ?_;with_reducible refine sxE ?_
 refine cQ (q9s 2 2 (by decide) _ (by simp)) ?_;trivial
theorem j4t(v:Int)(h0:4611686018427387904<v)(h1:v≤9223372036854775807):PC Tryz.prog 37 [rI v] (.isl .u8 (intR v)):=by
 have hr:intR v=elemS 2 [numS v 8]:=by unfold intR;rw [if_neg (by omega),if_neg (by omega)]
 rw [hr];clear hr;obtain ⟨n,rfl⟩:∃n:Nat,v=n:=⟨v.toNat,by omega⟩
 refine q0f rfl rfl ?_;have q0:IntKind.i64.wrap ((n:Int).tdiv 256)=(qN n 1:Int):=by rw [show (256:Int)=((256:Nat):Int) from rfl,z2n,wrapi (by omega)];rfl
 have h7:64≤qN n 7∧qN n 7≤127:=by unfold qN;constructor<;>omega
 have h8:qN n 8=0:=by unfold qN;omega
 refine ry1 fi37 q0 ?_;refine ⟨by decide,q0Y _,by decide,?_⟩
 rw [z7m];have h0:[byteOf (n:Int)]=numS n 1:=by simp [numS,byteAt]
 rw [h0];refine q0s (ι:=Nat×List SObj) (fun x=>[(0,rI (qN n (x.1+1):Int)),(3,.bld x.2.length .u8 (x.1+1))]) (fun x=>x.2++ [.row .u8 (numS n (x.1+1))]) (fun x=>8-x.1) (fun x=>x.1≤7) (0,[]) (by omega) rfl ?_ ?_
 · with_reducible refine sxE ?_;trivial
 rintro ⟨j,G⟩ hj;dsimp only at hj;have hln:(numS (n:Int) (j+1)).length=j+1:=by simp [numS]
 have q1:IntKind.i64.wrap ((qN n (j+1):Int).tdiv 256)=(qN n (j+1+1):Int):=by
  have h1:=j5f n (j+1+1);rw [show (256:Int)=((256:Nat):Int) from rfl,z2n,←q9V,wrapi (by omega)]
 have htk:List.take (j+1) (numS (n:Int) (j+1))=numS n (j+1):=Aa (by omega)
 refine uQ 600 _ ?_;simp (maxSteps:=3000000) only [q1,hln,htk,List.append_assoc,getA,getA0,setA,setA0,Af,Nat.add_assoc,go_sem,↓zA,↓reduceIte,↓reduceDIte] <;>try simp only [zB]
 refine ⟨fun hp=> ?_,fun hz=> ?_⟩
 · have hj7:j+1≤7:=by
    rcases AB j 7 with h|h
    · omega
    exfalso;obtain rfl:j=7:=by omega
    have:qN n (7+1)=0:=h8;omega
   refine ⟨by decide,q0Y _,⟨Nat.le_refl _,by omega,by omega⟩,by decide,(j+1,G++ [.row .u8 (numS n (j+1)),.dead]),hj7,by dsimp only;omega,?_,?_⟩
   · dsimp only;rw [q7M (by omega),←q2f n (j+1) (by omega),←q2p,List.append_assoc]
     rfl
   with_reducible refine sxaE ?_
   exact congrArg (SV.bld (G.length+2) .u8) (by omega)
 have hz0:qN n (j+1)=0:=by omega
 have hj:j=7:=by
  rcases AB j 7 with h|h
  · exfalso;have:=z8z n (show j+1≤7 by omega)
    omega
  omega
 subst hj;have hln8:(numS (n:Int) 8).length=8:=hln;have htop:(numS (n:Int) 8).getD 0 Ty.u8.dflt=byteOf (qN n 7:Int):=by
  rw [q2p,Bh,q2f n 7 (by omega)]
 have htn:((byteOf (qN n 7:Int)).toNat:Int)=(qN n 7:Int):=by
  unfold byteOf;rw [q0Y,u8w];omega
 rw [htop,htn];refine ⟨by omega,by omega,fun h128=>absurd h128 (by omega),fun h128=> ?_⟩
 refine q0o G.length ?_;with_reducible refine sxaE ?_
 refine ⟨by omega,by omega,?_⟩
 rw [Aa (by omega)]
 refine cQ (q9s 2 2 (by decide) _ (by omega)) ?_;trivial
theorem j1n(v:Int)(h: -9223372036854775808≤v∧v≤9223372036854775807):PC Tryz.prog 37 [rI v] (.isl .u8 (intR v)):=by
 by_cases h0:v<0
 · exact j4p v h0 h.1
 by_cases h1:v≤4611686018427387904
 · rw [z3d ⟨by omega,h1⟩];exact j4v v ⟨by omega,h1⟩
 exact j4t v (by omega) h.2
theorem j0Q{l:List ByteArray}{k:Nat}(hl:l.length≤64)(h:∀x∈l,x.size≤1000):(strsN l k).flatten.length≤64320:=by
 have h1:=q6a (B:=1005) (strsN l k) (fun x hx=>by
  unfold strsN at hx;rw [Bi] at hx;obtain ⟨y,hy,rfl⟩:=hx;have h2:=h y (B5 hy);have h3:=q0x 27 [y.data.toList];have h4:y.data.toList.length=y.size:=by simp
  simp only [Av,AE,Aj] at h3
  omega)
 have h2:(strsN l k).length≤64:=by unfold strsN;simp;omega
 have:1005* (strsN l k).length≤1005*64:=Ba _ h2;omega
def shP(p:Prin):Prop:=p.1.length≤64∧(∀x∈p.1,x.size≤1000)∧p.2.size≤1000
theorem z6A(p:Prin)(h:shP p):PC Tryz.prog 38 [.agg (PrinT.cells p)] (.isl .u8 (prinS p)):=by
 obtain ⟨l,r⟩:=p;obtain ⟨hl,hp,hr⟩:=h;dsimp only at hl hp hr;have hps:prinS (l,r)=elemS 48 [wrapS 160 0 (elemS 48 (strsN l l.length)),wrapS 160 1 (elemS 27 [r.data.toList])]:=rfl;generalize prinS (l,r)=ps at*;refine q0f rfl rfl ?_;refine rQ fi38 ?_;refine q2I 3 (.slice .u8) (strsN l) (fun i=>[(4,rI i)]) l.length (fun _=>True) rfl (by simp) (by simp [strsN]) rfl (fun i=>rfl) ?_ fun i hi _=> ?_
 · with_reducible refine sxE ?_;trivial
 have hwr:=wsx i (by omega)
 have hln:=z1D hi;by_cases hlt:i<l.length
 · have hst:=q8s hlt;have hsz:=hp _ (q0K (d:=Ty.str.dflt) hlt);refine gQ ?_;refine ⟨fun _=>⟨⟨by omega,hlt⟩,q0a (j1m _ (by omega)) ?_⟩,fun h=>absurd hlt h⟩
   refine gQ ?_;refine ⟨⟨by omega,by omega⟩,q1C [_,_] [] hlt trivial (by rw [hst];rfl) ?_⟩
   with_reducible refine sx3 hwr hst ?_;trivial
 obtain rfl:i=l.length:=by omega
 have hf:=j0Q (k:=l.length) hl hp;have g1:=q0x 48 (strsN l l.length);have g2:=q0x 27 [r.data.toList];have g3:r.data.toList.length=r.size:=by simp
 simp only [Av,AE,Aj] at g2;have g4:=q0O 160 0 (elemS 48 (strsN l l.length));have g5:=q0O 160 1 (elemS 27 [r.data.toList]);refine q0X 1 rfl rfl (by omega) ?_ ?_ ?_
 · with_reducible refine sxE ?_;trivial
 · with_reducible refine sxE ?_
   exact Ag _
 with_reducible refine sxE ?_
 rw [Aa (Ag _)];refine gQ ?_;refine ⟨fun h=>absurd h hlt,fun _=>q0g (z1h _ (by omega) (by omega)) ?_⟩
 refine gQ ?_;refine cR (q7p 0 (by decide) _ (by omega)) ?_
 refine cR (j1m r (by omega)) ?_
 refine cR (q7p 1 (by decide) _ (by omega)) ?_
 refine q0H 2 (by decide) ?_
 with_reducible refine sxE ?_
 refine cR (z1h _ (by simp) (by simp only [Av,AE,Aj,Af];omega)) ?_
 exact hps.symm
set_option maxHeartbeats 40000000
def shS(p:Prin):Prop:=p.1.length≤6∧(∀x∈p.1,x.size≤40)∧p.2.size≤40
theorem j4K{p:Prin}(h:shS p):shP p:=⟨Am h.1 (by decide),fun x hx=>Am (h.2.1 x hx) (by decide),Am h.2.2 (by decide)⟩
theorem j1C{p:Prin}(h:vPrin p=true):shS p:=by
 obtain ⟨h1,h2,h3⟩:=q5i h;exact ⟨by omega,fun x hx=>Am (h2 x hx) (by decide),by omega⟩
theorem z3c{p:Prin}(h:shS p):(prinS p).length≤400:=by
 obtain ⟨l,r⟩:=p;obtain ⟨hl,hp,hr⟩:=h;dsimp only at hl hp hr;have hps:prinS (l,r)=elemS 48 [wrapS 160 0 (elemS 48 (strsN l l.length)),wrapS 160 1 (elemS 27 [r.data.toList])]:=rfl
 have h1:=q6a (B:=45) (strsN l l.length) (fun x hx=>by
  unfold strsN at hx;rw [Bi] at hx;obtain ⟨y,hy,rfl⟩:=hx;have h2:=hp y (B5 hy);have h3:=q0x 27 [y.data.toList];have h4:y.data.toList.length=y.size:=by simp
  simp only [Av,AE,Aj] at h3
  omega)
 have h2:(strsN l l.length).length≤6:=by unfold strsN;simp;omega
 have h3:45* (strsN l l.length).length≤45*6:=Ba _ h2;have g1:=q0x 48 (strsN l l.length);have g2:=q0x 27 [r.data.toList];have g3:r.data.toList.length=r.size:=by simp
 simp only [Av,AE,Aj] at g2;have g4:=q0O 160 0 (elemS 48 (strsN l l.length));have g5:=q0O 160 1 (elemS 27 [r.data.toList]);have g6:=q0x 48 [wrapS 160 0 (elemS 48 (strsN l l.length)),wrapS 160 1 (elemS 27 [r.data.toList])];simp only [Av,AE,Aj,Af] at g6;rw [hps];omega
def shC(p:Pac):Prop:=shS p.1∧p.2.2.2.1.length≤70∧p.2.2.2.2.length≤20∧(∀x∈p.2.2.2.2,shS x)∧(-9223372036854775808≤p.2.2.1∧p.2.2.1≤9223372036854775807)∧∀x∈p.2.2.2.1, -9223372036854775808≤x∧x≤9223372036854775807
def grpN(g:List Int)(i:Nat):List (List UInt8):=mapN (t:=I64) intR g i
def viaN(w:List Prin)(i:Nat):List (List UInt8):=mapN (t:=PrinT) prinS w i
def pacF(p:Pac):List (List UInt8):=[wrapS 160 0 (prinS p.1),wrapS 160 1 (timR p.2.1),wrapS 160 2 (intR p.2.2.1),wrapS 160 3 (if p.2.2.2.1.length=0 then [] else elemS 48 (grpN p.2.2.2.1 p.2.2.2.1.length)),wrapS 160 4 (if p.2.2.2.2.length=0 then [] else elemS 48 (viaN p.2.2.2.2 p.2.2.2.2.length))]
def pacR(p:Pac):List UInt8:=elemS 48 (pacF p)
theorem z8L{g:List Int}(h:g.length≤70)(i:Nat):(grpN g i).flatten.length≤980:=by
 have h1:=q6a (B:=14) (grpN g i) (fun x hx=>by
  unfold grpN mapN at hx;rw [Bi] at hx;obtain ⟨y,_,rfl⟩:=hx
  exact z0h y)
 have h2:(grpN g i).length≤70:=by unfold grpN mapN;simp;omega
 have:14* (grpN g i).length≤14*70:=Ba _ h2;omega
theorem z6O{w:List Prin}(h:w.length≤20)(hs:∀x∈w,shS x)(i:Nat):(viaN w i).flatten.length≤8000:=by
 have h1:=q6a (B:=400) (viaN w i) (fun x hx=>by
  unfold viaN mapN at hx;rw [Bi] at hx;obtain ⟨y,hy,rfl⟩:=hx
  exact z3c (hs y (B5 hy)))
 have h2:(viaN w i).length≤20:=by unfold viaN mapN;simp;omega
 have:400* (viaN w i).length≤400*20:=Ba _ h2;omega
theorem j3F{p:Pac}(h:shC p):(pacF p).flatten.length≤9800∧(elemS 48 (grpN p.2.2.2.1 p.2.2.2.1.length)).length≤990∧(elemS 48 (viaN p.2.2.2.2 p.2.2.2.2.length)).length≤8010∧(pacR p).length≤9810:=by
 obtain ⟨h1,h2,h3,h4,_⟩:=h;have a1:=z3c h1;have a2:=z3U p.2.1;have a3:=z0h p.2.2.1;have a4:=z8L h2 p.2.2.2.1.length;have a5:=z6O h3 h4 p.2.2.2.2.length;have b4:=q0x 48 (grpN p.2.2.2.1 p.2.2.2.1.length);have b5:=q0x 48 (viaN p.2.2.2.2 p.2.2.2.2.length);have c4:(if p.2.2.2.1.length=0 then [] else elemS 48 (grpN p.2.2.2.1 p.2.2.2.1.length)).length≤990:=by split<;>first| (simp;done) |omega
 have c5:(if p.2.2.2.2.length=0 then [] else elemS 48 (viaN p.2.2.2.2 p.2.2.2.2.length)).length≤8010:=by split<;>first| (simp;done) |omega
 have w1:=q0O 160 0 (prinS p.1);have w2:=q0O 160 1 (timR p.2.1);have w3:=q0O 160 2 (intR p.2.2.1);have w4:=q0O 160 3 (if p.2.2.2.1.length=0 then [] else elemS 48 (grpN p.2.2.2.1 p.2.2.2.1.length));have w5:=q0O 160 4 (if p.2.2.2.2.length=0 then [] else elemS 48 (viaN p.2.2.2.2 p.2.2.2.2.length));have hF:(pacF p).flatten.length≤9800:=by
  unfold pacF;simp only [Av,AE,Aj,Af];omega
 have hR:=q0x 48 (pacF p);refine ⟨hF,by omega,by omega,?_⟩
 unfold pacR;omega
theorem z8Z{p:Pac}(h:vPac p=true):pacS p=elemS 48 [wrapS 160 0 (prinS p.1),wrapS 160 1 (timeS p.2.1),wrapS 160 2 (intS p.2.2.1),wrapS 160 3 (listS (t:=I64) intS p.2.2.2.1),wrapS 160 4 (listS (t:=PrinT) prinS p.2.2.2.2)]:=by
 have hc:prinE p.1=prinS p.1:=by unfold prinE;simp only [vPac,Ai] at h;rw [if_pos h.1]
 have hw:listS (t:=PrinT) prinE p.2.2.2.2=listS (t:=PrinT) prinS p.2.2.2.2:=by
  have hm:mapN (t:=PrinT) prinE p.2.2.2.2 p.2.2.2.2.length=mapN (t:=PrinT) prinS p.2.2.2.2 p.2.2.2.2.length:=by
   unfold mapN;rw [Az];refine BI fun x hx=> ?_;simp only [vPac,Ai,A1] at h;unfold prinE;rw [if_pos (h.2.2.2.2.2.2 x hx)]
  unfold listS;rw [hm]
 unfold pacS;rw [hc,hw]
theorem z8w{p:Pac}(h:vPac p=true):pacR p=pacS p:=by
 rw [z8Z h];simp only [vPac,Ai,decide_eq_true_eq,A1] at h;obtain ⟨_,ha,hu,_,_,hg,_⟩:=h;have hn:∀x,vNum x=true→0≤x∧x≤2147483647:=fun x hx=>by simpa [vNum,mIn] using hx
 have ht:0≤p.2.1∧p.2.1≤1099511627776:=by simpa [vTime,mIn] using ha
 have hu:=hn _ hu;have hg1:mapN (t:=I64) intR p.2.2.2.1 p.2.2.2.1.length=mapN (t:=I64) intS p.2.2.2.1 p.2.2.2.1.length:=by
  unfold mapN;rw [Az];refine BI fun x hx=>z3d ?_;obtain ⟨j,hj,rfl⟩:=AN hx;have:=q1E.1 hg j hj;simp only [grpAt,Ai,q4H hj] at this;have:=hn _ this.1;omega
 unfold pacR pacF listS grpN viaN;rw [j2k ht,z3d (by omega),hg1]
theorem grpV{g:List Int}(hg:allN g.length (grpAt g)=true):∀x∈g,0≤x∧x≤2147483647:=fun x hx=>by
 obtain ⟨j,hj,rfl⟩:=AN hx;have:=q1E.1 hg j hj;simp only [grpAt,Ai,q4H hj] at this;simpa [vNum,mIn] using this.1
theorem j1L{p:Pac}(h:vPac p=true):shC p:=by
 simp only [vPac,Ai,decide_eq_true_eq,A1] at h;have hu:0≤p.2.2.1∧p.2.2.1≤2147483647:=by simpa [vNum,mIn] using h.2.2.1
 have hR:∀x:Int,0≤x∧x≤2147483647→ -9223372036854775808≤x∧x≤9223372036854775807:=fun x hx=>by omega
 exact ⟨j1C h.1,by omega,by omega,fun x hx=>j1C (h.2.2.2.2.2.2 x hx),hR _ hu,fun x hx=>hR _ (grpV h.2.2.2.2.2.1 x hx)⟩
theorem z1u(p:Pac)(hsh:shC p):PC Tryz.prog 10 [.agg (PacT.cells p)] (.isl .u8 (pacR p)):=by
 obtain ⟨z1,z2,z3,z4⟩:=j3F hsh;obtain ⟨h1,h2,h3,h4,hru,hrg⟩:=hsh;have hd:pacR p=elemS 48 (pacF p):=rfl;obtain ⟨c,a,u,g,w⟩:=p;unfold pacF at hd z1;generalize pacR (c,a,u,g,w)=ps at*;dsimp only at hd z1 z2 z3 h1 h2 h3 h4 hru hrg;have e1:=z3c h1;have e2:=z3U a;have e3:=z0h u;refine q0f rfl rfl ?_;refine rQ fi10 ?_;refine q2I 3 (.slice .u8) (grpN g) (fun i=>[(5,rI i)]) (List.length g) (fun _=>True) rfl (by simp) (by simp [grpN,mapN]) rfl (fun i=>rfl) ?_ fun i hi _=> ?_
 · with_reducible refine sxE ?_;trivial
 have hwr:=wsx i (by omega)
 have hln:(grpN g i).length=i:=q6M (t:=I64) (w:=intR) hi;by_cases hlt:i<List.length g
 · have hst:grpN g (i+1)=grpN g i++ [intR (g.getD i I64.dflt)]:=q5x (t:=I64) (w:=intR) hlt;have hz: -9223372036854775808≤(g.getD i I64.dflt:Int)∧(g.getD i I64.dflt:Int)≤9223372036854775807:=by
    have:=hrg _ (q0K (d:=I64.dflt) hlt);exact this
   refine gQ ?_;refine ⟨fun _=>⟨⟨by omega,hlt⟩,q0a (j1n _ hz) ?_⟩,fun h=>absurd hlt h⟩
   refine gQ ?_;refine ⟨⟨by omega,by omega⟩,q1C [_,_] [] hlt trivial (by rw [hst];rfl) ?_⟩
   with_reducible refine sx3 hwr hst ?_;trivial
 obtain rfl:i=List.length g:=by omega
 refine q0X 1 rfl rfl (by omega) ?_ ?_ ?_
 · with_reducible refine sxE ?_;trivial
 · with_reducible refine sxE ?_
   exact Ag _
 with_reducible refine sxE ?_
 rw [Aa (Ag _)];refine gQ ?_;refine ⟨fun h=>absurd h hlt,fun _=> ?_⟩;have hfg:=z8L h2 (List.length g);have hfw:=z6O h3 h4 (List.length w);clear hwr hi;refine q2I 4 (.slice .u8) (viaN w) (fun i=>[(6,rI i)]) (List.length w) (fun _=>True) rfl (by simp) (by simp [viaN,mapN]) rfl (fun i=>rfl) ?_ fun k hk _=> ?_
 · with_reducible refine sxE ?_;trivial
 have hwr:=wsx k (by omega)
 have hlk:(viaN w k).length=k:=q6M (t:=PrinT) (w:=prinS) hk;by_cases hlt2:k<List.length w
 · have hst:viaN w (k+1)=viaN w k++ [prinS (w.getD k PrinT.dflt)]:=q5x (t:=PrinT) (w:=prinS) hlt2;refine gQ ?_;refine ⟨fun _=>⟨⟨by omega,hlt2⟩,q0a (z6A (w.getD k PrinT.dflt) (j4K (h4 _ (q0K hlt2)))) ?_⟩,fun h=>absurd hlt2 h⟩
   refine gQ ?_;refine ⟨⟨by omega,by omega⟩,q1C [_,_] [] hlt2 trivial (by rw [hst];rfl) ?_⟩
   with_reducible refine sx3 hwr hst ?_;trivial
 obtain rfl:k=List.length w:=by omega
 refine q0X 2 rfl rfl (by omega) ?_ ?_ ?_
 · with_reducible refine sxE ?_;trivial
 · with_reducible refine sxE ?_
   exact Ag _
 with_reducible refine sxE ?_
 rw [Aa (Ag _)];have hq1:(((grpN g (List.length g)).length:Int)=0)=(List.length g=0):=by rw [hln];exact propext ⟨fun h=>by omega,fun h=>by omega⟩
 have hq2:(((viaN w (List.length w)).length:Int)=0)=(List.length w=0):=by rw [hlk];exact propext ⟨fun h=>by omega,fun h=>by omega⟩
 have f4:(if List.length g=0 then [] else elemS 48 (grpN g (List.length g))).length≤990:=by split<;>first| (simp;done) |omega
 have f5:(if List.length w=0 then [] else elemS 48 (viaN w (List.length w))).length≤8010:=by split<;>first| (simp;done) |omega
 have hz: -9223372036854775808≤u∧u≤9223372036854775807:=hru;refine gy2 hq1 hq2 ?_;refine ⟨fun h=>absurd h hlt2,fun _=>q0g (z6A c (j4K h1)) ?_⟩;refine gQ ?_;refine cR (q7p 0 (by decide) _ (by omega)) ?_
 refine cR (j3E a) ?_;refine cR (q7p 1 (by decide) _ (by omega)) ?_
 refine cR (j1n u hz) ?_;refine cR (q7p 2 (by decide) _ (by omega)) ?_
 refine cR (z1h (grpN g (List.length g)) (by omega) (by omega)) ?_
 refine cR (z0V (decide (List.length g=0)) _) ?_;refine cR (q7p 3 (by decide) _ (Am f4 (by decide))) ?_
 refine cR (z1h (viaN w (List.length w)) (by omega) (by omega)) ?_
 refine cR (z0V (decide (List.length w=0)) _) ?_;refine cR (q7p 4 (by decide) _ (Am f5 (by decide))) ?_
 refine q0H 3 (by decide) ?_
 with_reducible refine sxE ?_
 refine cR (z1h _ (by simp) (by omega)) ?_
 exact hd.symm
set_option maxHeartbeats 4000000
theorem j3O(x:List UInt8):(eltR x).length≤x.length:=Am (q4l _ _) (q2x x)
theorem j3L{x y:List UInt8}(h:y∈eltR x):y.length≤x.length:=Am (q3u _ _ y h).2 (q2x x)
theorem z2T{t:Ty}{f:List UInt8→t.den}{x:List UInt8}(hx:x.length≤1048576)(h:∀y,y.length≤1048576→t.ok (f y)):(Ty.slice t).ok ((eltR x).map f):=by
 refine ⟨by rw [Bk];have:=j3O x;omega,fun z hz=> ?_⟩
 obtain ⟨y,hy,rfl⟩:=Bi.1 hz;exact h y (Am (j3L hy) hx)
theorem z8I{y:List UInt8}(h:y.length≤1048576):(Ty.str).ok (sR y):=by
 have:=z6v y;show (sR y).size≤_;omega
theorem z1J{y:List UInt8}(n:Nat)(h:y.length≤1048576):(itmR y n).length≤1048576:=Am (q2S y n) h
theorem z2G{y:List UInt8}(h:y.length≤1048576):PrinT.ok (prnR y):=⟨z2T (t:=.str) (z1J 0 h) fun _ hz=>z8I hz,z8I (z1J 1 h)⟩
theorem j2n{y:List UInt8}(h:y.length≤1048576):(Ty.slice PrinT).ok (nmsR y):=z2T (t:=PrinT) h fun _ hz=>z2G hz
set_option maxHeartbeats 40000000
def itN(l:List (List UInt8))(i:Nat):List Int:=(l.take i).map fun x=>(gIntR x:Int)
theorem z9D{l:List (List UInt8)}{i:Nat}(h:i<l.length):itN l (i+1)=itN l i++ [(gIntR (l.getD i (Ty.slice .u8).dflt):Int)]:=by unfold itN;rw [q0V (d:=(Ty.slice .u8).dflt) h];simp
theorem j2G{l:List (List UInt8)}{i:Nat}(h:i≤l.length):(itN l i).length=i:=by simp [itN];omega
theorem j1W(l:List (List UInt8)):itN l l.length=l.map fun x=>(gIntR x:Int):=by unfold itN;rw [Az]
theorem z7G{b:List UInt8}(hb:b.length≤1048576):PacT.ok (pacG b):=⟨z2G (z1J 0 hb),trivial,trivial,z2T (t:=I64) (z1J 3 hb) (fun _ _=>trivial),j2n (z1J 4 hb)⟩
theorem z7W(b:List UInt8)(hb:b.length≤1048576):PC Tryz.prog 23 [.isl .u8 b] (.tup [.agg (PacT.cells ((decPc b).getD PacT.dflt)),rI (if (decPc b).isSome then 0 else 6)]):=by
 have hd:decPc b=if vPac (pacG b)=true∧pacS (pacG b)=b then some (pacG b) else none:=(z1X b).symm;generalize decPc b=R at*;have hok:=z7G hb;have hE:pacG b=(prnR (itmR b 0),(gIntR (itmR b 1):Int),(gIntR (itmR b 2):Int),(elsR (conR (itmR b 3)).length (conR (itmR b 3))).map (fun x=>(gIntR x:Int)),(elsR (conR (itmR b 4)).length (conR (itmR b 4))).map prnR):=rfl;have q0:=q2S b 0;have q1:=q2S b 1;have q2:=q2S b 2;have q3:=q2S b 3;have q4:=q2S b 4;have c0:=q8S (itmR b 0) (by omega)
 have c1:=q8Y (itmR b 1) (by omega)
 have c2:=q8Y (itmR b 2) (by omega)
 have d4:=q1N (itmR b 3) (by omega)
 have dl4:=q2x (itmR b 3);have e4:=q4m (conR (itmR b 3)) (by omega)
 have hm4:=q3u (conR (itmR b 3)).length (conR (itmR b 3));have hle4:=q4l (conR (itmR b 3)).length (conR (itmR b 3));have d15:=q1N (itmR b 4) (by omega)
 have dl15:=q2x (itmR b 4);have e15:=q4m (conR (itmR b 4)) (by omega)
 have hm15:=q3u (conR (itmR b 4)).length (conR (itmR b 4));have hle15:=q4l (conR (itmR b 4)).length (conR (itmR b 4));generalize pacG b=X at*;generalize prnR (itmR b 0)=x0 at*;generalize gIntR (itmR b 1)=x1 at*;generalize gIntR (itmR b 2)=x2 at*;generalize elsR (conR (itmR b 3)).length (conR (itmR b 3))=l4 at*;generalize elsR (conR (itmR b 4)).length (conR (itmR b 4))=l15 at*;refine q0f rfl (by cases R<;>rfl) ?_
 refine rQ fi23 ?_;refine cQ (q7x b 0 (by omega) (by omega)) ?_
 refine cQ c0 ?_;refine cQ (q7x b 1 (by omega) (by omega)) ?_
 refine cQ c1 ?_;refine cQ (q7x b 2 (by omega) (by omega)) ?_
 refine cQ c2 ?_;refine cQ (q7x b 3 (by omega) (by omega)) ?_
 refine cQ d4 ?_;refine cQ e4 ?_;refine cQ (q7x b 4 (by omega) (by omega)) ?_
 refine cQ d15 ?_;refine cQ e15 ?_;refine q2d 1 4 (I64) rfl rfl rfl ?_;with_reducible refine sxE ?_
 refine q0s (ι:=Nat×List SObj) (fun s=>[(7,rI s.1)]) (fun s=>[.cells 28 [.raw (.slice none 0 0),rS ⟨#[]⟩,rI 0,rI 0,.raw (.slice none 0 0),.raw (.slice none 0 0)],.cells 28 [.isl .str x0.1,rS x0.2,rI (x1:Nat),rI (x2:Nat),.bld (s.2.length+2) (I64) (itN l4 s.1).length,.raw (.slice none 0 0)]]++s.2++ [.row (I64) (itN l4 s.1)]) (fun s=>l4.length-s.1) (fun s=>s.1≤l4.length) (0,[]) (Al _) rfl ?_ ?_
 · with_reducible refine sxE ?_;trivial
 rintro ⟨i,G⟩ hi;dsimp only at hi;have hwr:=wsx i (by omega)
 have hln:=j2G hi;refine uQ 12 _ ?_;with_reducible refine sxaE ?_
 refine ⟨fun hlt=> ?_,fun hge=> ?_⟩
 · have hmm:=hm4 _ (q0K (d:=(Ty.slice .u8).dflt) hlt);have hst:=z9D hlt;refine q2r [1] mixed ?_;refine aQ ?_;refine ⟨⟨by omega,hlt⟩,q0g (q8Y _ (by omega)) ?_⟩
   refine aQ ?_;refine ⟨⟨by omega,by omega⟩,(i+1,G++ [.dead,.row (I64) [((gIntR (l4.getD i (Ty.slice .u8).dflt):Nat):Int)]]),by dsimp only;omega,by dsimp only;omega,?_,?_⟩
   · simp [hst]
   with_reducible refine sya1 hwr ?_;trivial
 obtain rfl:i=l4.length:=by omega
 refine q6d (ty:=I64) (xs:=itN l4 l4.length) [.cells 28 [.raw (.slice none 0 0),rS ⟨#[]⟩,rI 0,rI 0,.raw (.slice none 0 0),.raw (.slice none 0 0)],.cells 28 [.isl .str x0.1,rS x0.2,rI (x1:Nat),rI (x2:Nat),.bld (G.length+2) (I64) (itN l4 l4.length).length,.raw (.slice none 0 0)]] [.cells 28 [.raw (.slice none 0 0),rS ⟨#[]⟩,rI 0,rI 0,.raw (.slice none 0 0),.raw (.slice none 0 0)],.cells 28 [.isl .str x0.1,rS x0.2,rI (x1:Nat),rI (x2:Nat),.bld 2 (I64) (itN l4 l4.length).length,.raw (.slice none 0 0)]] G rfl (by simp) (by simp) ?_ (by rfl) ?_ ?_ ?_
 · simp [SObj.ren,SV.ren,SV.renL,shift,Bb]
 · rfl
 · with_reducible refine sxE ?_;trivial
 with_reducible refine sxE ?_
 refine q0X 2 rfl rfl (by omega) ?_ ?_ ?_
 · with_reducible refine sxE ?_
   exact Ag _
 · with_reducible refine sxE ?_;trivial
 with_reducible refine sxE ?_
 rw [Aa (Ag _),j1W];clear hi hwr hln hge;generalize l4.map (fun x=>(gIntR x:Int))=v4 at*;refine gQ ?_;refine q2d 1 5 (PrinT) rfl rfl rfl ?_;with_reducible refine sxE ?_
 refine q0s (ι:=Nat×List SObj) (fun s=>[(8,rI s.1)]) (fun s=>[.cells 28 [.raw (.slice none 0 0),rS ⟨#[]⟩,rI 0,rI 0,.raw (.slice none 0 0),.raw (.slice none 0 0)],.cells 28 [.isl .str x0.1,rS x0.2,rI (x1:Nat),rI (x2:Nat),.isl I64 v4,.bld (s.2.length+3) (PrinT) (pnN l15 s.1).length],.dead]++s.2++ [.row (PrinT) (pnN l15 s.1)]) (fun s=>l15.length-s.1) (fun s=>s.1≤l15.length) (0,[]) (Al _) rfl ?_ ?_
 · with_reducible refine sxE ?_;trivial
 rintro ⟨i,G⟩ hi;dsimp only at hi;have hwr:=wsx i (by omega)
 have hln:=j3a hi;refine uQ 12 _ ?_;with_reducible refine sxaE ?_
 refine ⟨fun hlt=> ?_,fun hge=> ?_⟩
 · have hmm:=hm15 _ (q0K (d:=(Ty.slice .u8).dflt) hlt);have hst:=z9L hlt;have hos:=(z2G (y:=l15.getD i (Ty.slice .u8).dflt) (by omega)).2
   refine q2r [1] mixed ?_;refine aQ ?_;refine ⟨⟨by omega,hlt⟩,q0g (q8S _ (by omega)) ?_⟩
   refine aQ ?_;refine ⟨hos,⟨by omega,by omega⟩,(i+1,G++ [.dead,.row (PrinT) [prnR (l15.getD i (Ty.slice .u8).dflt)]]),by dsimp only;omega,by dsimp only;omega,?_,?_⟩
   · simp [hst]
   with_reducible refine sya1 hwr ?_;trivial
 obtain rfl:i=l15.length:=by omega
 refine q6d (ty:=PrinT) (xs:=pnN l15 l15.length) [.cells 28 [.raw (.slice none 0 0),rS ⟨#[]⟩,rI 0,rI 0,.raw (.slice none 0 0),.raw (.slice none 0 0)],.cells 28 [.isl .str x0.1,rS x0.2,rI (x1:Nat),rI (x2:Nat),.isl I64 v4,.bld (G.length+3) (PrinT) (pnN l15 l15.length).length],.dead] [.cells 28 [.raw (.slice none 0 0),rS ⟨#[]⟩,rI 0,rI 0,.raw (.slice none 0 0),.raw (.slice none 0 0)],.cells 28 [.isl .str x0.1,rS x0.2,rI (x1:Nat),rI (x2:Nat),.isl I64 v4,.bld 3 (PrinT) (pnN l15 l15.length).length],.dead] G rfl (by simp) (by simp) ?_ (by rfl) ?_ ?_ ?_
 · simp [SObj.ren,SV.ren,SV.renL,shift,Bb]
 · rfl
 · with_reducible refine sxE ?_;trivial
 with_reducible refine sxE ?_
 refine q0X 3 rfl rfl (by omega) ?_ ?_ ?_
 · with_reducible refine sxE ?_
   exact Ag _
 · with_reducible refine sxE ?_;trivial
 with_reducible refine sxE ?_
 rw [Aa (Ag _),j3e];clear hi hwr hln hge;generalize l15.map prnR=v15 at*;refine gQ ?_;subst hE;refine q0g (q7s _ hok) ?_;cases hv:vPac (x0,((x1:Nat):Int),((x2:Nat):Int),v4,v15) with
 |false=>
  have hR:R=none:=by rw [hd,if_neg (by rw [hv];simp)]
  subst hR;refine gQ ?_;exact ⟨⟨rfl,rfl,rfl,rfl,rfl,rfl⟩,rfl⟩
 |true=>
  refine gQ ?_;have ce:=z1u (x0,((x1:Nat):Int),((x2:Nat):Int),v4,v15) (j1L hv);rw [z8w hv] at ce;refine cR ce ?_;refine ⟨fun q=> ?_,fun q=> ?_⟩
  · have hne:¬pacS (x0,((x1:Nat):Int),((x2:Nat):Int),v4,v15)=b:=fun e=>q (by rw [e])
    have hR:R=none:=by rw [hd,if_neg (fun h=>hne h.2)]
    subst hR;exact ⟨⟨rfl,rfl,rfl,rfl,rfl,rfl⟩,rfl⟩
  have he:pacS (x0,((x1:Nat):Int),((x2:Nat):Int),v4,v15)=b:=by simpa [strOf] using q
  have hR:R=some (x0,((x1:Nat):Int),((x2:Nat):Int),v4,v15):=by rw [hd,if_pos ⟨hv,he⟩]
  subst hR;exact ⟨⟨rfl,rfl,rfl,rfl,rfl,rfl⟩,rfl⟩
theorem z8q{b:List UInt8}(hb:b.length≤1048576){p:Pac}(h:decPc b=some p):PacT.ok p:=by
 rw [←z1X] at h;unfold decPcR at h;split at h
 · cases h;exact z7G hb
 cases h
theorem z2O(p:Pac)(ho:PacT.ok p)(b:List UInt8):PC Tryz.prog 4 [.agg (PacT.cells p),.isl .u8 b] (rB true):=by
 have cs:=z3O p ho;have ce:=z0n p ho;have cv:=q2D p ho;have cr:=q7s p ho;have ck:=z4r;have cre:=fun h:vPac p=true=>z1u p (j1L h);by_cases hb:1500<b.length
 · have f1:(1500< (b.length:Int))=True:=eq_true (by omega)
   obtain ⟨c,a,u,g,w⟩:=p;refine q0w rfl rfl ?_;refine rQ fi4 ?_;refine q0a cs ?_;cases smallP (c,a,u,g,w);all_goals
    refine gy1 f1 ?_;refine cQ ck ?_;trivial
 have f1:(1500< (b.length:Int))=False:=eq_false (by omega)
 have cd:=z1R b (by omega)
 have cdr:=z7W b (by omega)
 have hso:PacT.ok ((decPc b).getD PacT.dflt):=by
  cases h:decPc b with
  |none=>exact ⟨⟨q4x,z8k⟩,trivial,trivial,q4x,q4x⟩
  |some x=>exact z8q (by omega) h
 have csm:=q5W ((decPc b).getD PacT.dflt) ((decPc b).getD PacT.dflt) hso;rw [decide_eq_true rfl] at csm;generalize (decPc b).getD PacT.dflt=d at*;generalize (decPc b).isSome=s at*;cases hsm:smallP p with
 |false=>
  rw [hsm] at cs;obtain ⟨c,a,u,g,w⟩:=p;refine q0w rfl rfl ?_;refine rQ fi4 ?_;refine cQ cs ?_;refine cQ ck ?_;trivial
 |true=>
 rw [hsm] at cs;cases hv:vPac p with
 |false=>
  rw [hv] at ce cv cr;clear cre;obtain ⟨c,a,u,g,w⟩:=p;obtain ⟨dc,da,du,dg,dw⟩:=d;refine q0w rfl rfl ?_;refine rQ fi4 ?_;refine cy1 cs f1 ?_;refine cQ ce ?_;refine cR cv ?_;refine cR cr ?_;refine cQ cr ?_;refine cQ (q0S _) ?_;refine cQ cd ?_;refine cQ cdr ?_;refine cQ csm ?_;refine cQ (q0S _) ?_;refine cQ ck ?_;trivial
 |true=>
  have cre:=cre hv;rw [z8w hv] at cre;rw [hv,if_pos rfl,if_pos rfl] at ce;rw [hv] at cv cr;generalize pacS p=y at*;obtain ⟨c,a,u,g,w⟩:=p;obtain ⟨dc,da,du,dg,dw⟩:=d;refine q0w rfl rfl ?_;refine rQ fi4 ?_;refine cy1 cs f1 ?_;refine cQ ce ?_;refine cR cv ?_;refine cR cr ?_;refine cQ cr ?_;refine cR cre ?_;refine cR (q0S _) ?_;refine cQ cd ?_;refine cQ cdr ?_;refine cQ csm ?_;refine cQ (q0S _) ?_;refine cQ ck ?_;trivial
end Go.Proofs.YtmapiojgmbgbgaaGreatDoor
