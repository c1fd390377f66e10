/- Contracts: names. -/
import Derived.Test.YtmapiojgmbgbgaaGreatDoorR17
set_option linter.all false
namespace Go.Proofs.YtmapiojgmbgbgaaGreatDoor
open Go Go.Sx Go.Proofs
set_option maxRecDepth 100000
set_option maxHeartbeats 4000000
def szB(s:ByteArray):Bool:=decide (1≤(s.size:Int)) && decide ((s.size:Int)≤32)
theorem j4G(s:ByteArray):PC Tryz.prog 171 [rS s] (rB (szB s)):=by
 refine q0w rfl rfl ?_;refine rQ fi171 ?_
 grind [szB]
def visC(c:UInt8):Bool:=decide (33≤(c.toNat:Int)) && decide ((c.toNat:Int)≤126)
theorem j2S{c:UInt8}(h1:¬(c.toNat:Int) <33)(h2:¬126< (c.toNat:Int)):visC c=true:=by simp [visC];omega
theorem j1f{c:UInt8}(h1:(c.toNat:Int) <33):visC c=false:=by simp [visC];omega
theorem j1M{c:UInt8}(h1:126< (c.toNat:Int)):visC c=false:=by simp [visC];omega
def visB(s:ByteArray):Bool:=allN s.size fun j=>visC (s.data.toList.getD j 0)
theorem j4B(s:ByteArray)(hs:s.size≤140737488355328):PC Tryz.prog 119 [rS s] (rB (visB s&& szB s)):=by
 refine q0w rfl rfl ?_;refine rQ fi119 ?_;refine q7l 6 s.size (fun j=>visC (s.data.toList.getD j 0)=true) ?_ fun i hi hall=> ?_
 · with_reducible refine sxE ?_;trivial
 refine gQ ?_;refine ⟨fun hlt=>⟨⟨by omega,hlt⟩,fun h33=>⟨⟨by omega,hlt⟩,fun h126=> ?_,fun h126=>q9p hlt hall ?_ ?_⟩,fun h33=> ?_⟩,fun hge=>q0a (j4G s) ?_⟩
 · rw [show visB s=false from q0y hlt (j1M h126)];rfl
 · exact j2S h33 h126
 · with_reducible refine sxE ?_
   rw [q2U (by omega)]
 · rw [show visB s=false from q0y hlt (j1f h33)];rfl
 refine gQ ?_;rw [show visB s=true from q0B fun j hj=>hall j (by omega)];rfl

def fidx(l:List Bool):Int:=if l.all id then -1 else ((l.findIdx (!·):Nat):Int)
theorem j2F{l:List Bool}{i:Nat}(hlt:i<l.length)(hall:∀j,j<i→l.getD j false=true)(h:l.getD i false=false):fidx l=i:=by
 have h1:¬l.all id=true:=fun ha=>by
  rw [A3] at ha;have:=ha _ (q1a (d:=false) hlt);rw [h] at this;cases this
 unfold fidx;rw [if_neg h1,Int.ofNat_inj,List.findIdx_eq hlt];refine ⟨by rw [Ad,Ab hlt] at h;simpa using h,fun j hj=> ?_⟩
 have:=hall j hj;rw [Ad,Ab (by omega)] at this
 simpa using this
theorem j1j{l:List Bool}(hall:∀j,j<l.length→l.getD j false=true):fidx l= -1:=by
 have h1:l.all id=true:=by
  rw [A3];intro x hx;obtain ⟨j,hj,rfl⟩:=AX hx;have:=hall j hj;rw [Ad,Ab hj] at this;simpa using this
 unfold fidx;rw [if_pos h1]
theorem z9g(l:List Bool)(hl:l.length≤1125899906842624):PC Tryz.prog 217 [.isl .bool l,rB false] (rI (fidx l)):=by
 refine q0w rfl rfl ?_;refine rQ fi217 ?_;refine q7l 8 l.length (fun j=>l.getD j false=true) ?_ fun i hi hall=> ?_
 · with_reducible refine sxE ?_;trivial
 refine gQ ?_;refine ⟨fun hlt=>⟨⟨by omega,hlt⟩,fun h=> ?_,fun h=>q9p hlt hall ?_ ?_⟩,fun hge=> ?_⟩
 · rw [j2F hlt hall h.symm]
 · simpa [Ty.dflt] using h
 · with_reducible refine sxE ?_
   rw [q2U (by omega)]
 rw [j1j (fun j hj=>hall j (by omega))]
theorem q6L(l:List Bool)(hl:l.length≤1125899906842624):PC Tryz.prog 170 [.isl .bool l,rB false] (rB (!l.all id)):=by
 refine q0w rfl rfl ?_;refine rQ fi170 ?_;refine cQ (z9g l hl) ?_;unfold fidx;split
 · simp_all
 rename_i h;simp [h]
theorem j3s(l:List Bool)(hl:l.length≤1125899906842624):PC Tryz.prog 117 [.isl .bool l] (rB (l.all id)):=by
 refine q0w rfl rfl ?_;refine rQ fi117 ?_;refine cQ (q6L l hl) ?_;simp

theorem j4z(s:ByteArray)(hs:s.size≤140737488355328):PC Tryz.prog 118 [rS s] (rB (realmB s)):=
 j0f (vs:=[.string s]) (by kernel_rfl) fun w=>realm_c s w hs _ (Lib.hid rfl)

def vPart(s:ByteArray):Bool:=visB s&& szB s
def vPrin(p:Prin):Bool:=(decide (1≤(p.1.length:Int)) && (decide ((p.1.length:Int)≤4) && realmB p.2)) && allN p.1.length fun j=>vPart (p.1.getD j ByteArray.empty)
theorem q4Z(p:Prin)(hp:PrinT.ok p):PC Tryz.prog 63 [.agg (PrinT.cells p)] (rB (vPrin p)):=by
 obtain ⟨l,r⟩:=p;refine q0w rfl rfl ?_;refine rQ fi63 ?_;refine cR (j4z r hp.2) ?_;refine q0I 1 (by decide) ?_
 with_reducible refine sxE ?_
 refine q0l (j3s _ (by simp)) ?_
 refine uQ 600 _ ?_;simp (maxSteps:=3000000) only [Bt,Cy,id,go_sem,↓zA,↓reduceIte,↓reduceDIte] <;>try simp only [zB]
 refine ⟨fun h=> ?_,fun h=> ?_⟩
 · rw [vPrin,h];rfl
 refine q7l 22 l.length (fun j=>vPart (l.getD j ByteArray.empty)=true) ?_ fun i hi hall=> ?_
 · with_reducible refine sxE ?_;trivial
 have hl:l.length≤1125899906842624:=hp.1.1;refine gQ ?_;refine ⟨fun hlt=>⟨⟨by omega,hlt⟩,q0a (j4B _ (hp.1.2 _ (q1a hlt))) ?_⟩,fun hge=> ?_⟩
 · refine gQ ?_;refine ⟨fun hb=> ?_,fun hb=>q9p hlt hall hb ?_⟩
   · rw [vPrin,show (allN l.length fun j=>vPart (l.getD j ByteArray.empty))=false from q0y hlt hb];simp
   with_reducible refine sxE ?_
   rw [q2U (by omega)]
 rw [vPrin,h,show (allN l.length fun j=>vPart (l.getD j ByteArray.empty))=true from q0B fun j hj=>hall j (by omega)];rfl
def beN(l:List UInt8):Nat:=l.foldl (fun v c=>v*256+c.toNat) 0
theorem q6t(l:List UInt8)(i:Nat)(h:i<l.length):beN (l.take (i+1))=beN (l.take i)*256+ (l.getD i 0).toNat:=by
 unfold beN;rw [List.take_add_one,List.foldl_append,Ab h,Ad,Ab h];rfl
theorem q7E:∀ (l:List UInt8),beN l<256^ l.length:=by
 intro l;have:∀ (l:List UInt8) (v:Nat),l.foldl (fun v c=>v*256+c.toNat) v< (v+1)*256^ l.length:=by
  intro l;induction l with
  |nil=>intro v;simp
  |cons c l ih=>
   intro v;have h1:=ih (v*256+c.toNat);have h2:c.toNat<256:=c.toNat_lt;simp only [Bv,AC,CK];refine Am h1 ?_;have:(v*256+c.toNat+1)*256^ l.length≤((v+1)*256)*256^ l.length:=AV _ (by omega)
   calc _≤_:=this
    _=_:=by rw [Nat.mul_assoc,Cz 256]
 have h:=this l 0;simpa [beN] using h
theorem q9n(v c:Nat)(hv:v<36028797018963968)(hc:c<256):IntKind.i64.wrap ((BitVec.ofInt 64 ((v*256:Nat):Int) |||BitVec.ofInt 64 ((c:Nat):Int)).toNat:Int)=((v*256+c:Nat):Int):=by
 have h1:(BitVec.ofInt 64 ((v*256:Nat):Int)).toNat=v*256:=by rw [AH,AP];exact AL (by omega)
 have h2:(BitVec.ofInt 64 ((c:Nat):Int)).toNat=c:=by rw [AH,AP];exact AL (by omega)
 have h3:v*256|||c=v*256+c:=by
  have:=CF (b:=c) (i:=8) hc v;rw [Nat.shiftLeft_eq] at this;exact this.symm
 rw [Cn,h1,h2,h3];exact wrapi (by omega)
theorem z4w(b:List UInt8)(hb:b.length≤7):PC Tryz.prog 186 [.isl .u8 b] (rI (beN b)):=by
 refine q0w rfl rfl ?_;refine rQ fi186 ?_;refine q0X (fun i=>[(2,rI (beN (b.take i))),(7,.raw (.int .i64 ((i:Nat):Int)))]) (b.length) (fun j=>(fun _=>true) j=true) (by first|decide|simp) (fun i=>rfl) ?_ fun i hi hall=> ?_
 · (with_reducible refine sxE ?_<;>try exact True.intro)
   all_goals (try rfl)
 have hwr:=wsx i (by omega)
 refine gQ ?_;have bad:i< (b.length)→(fun _=>true) i=false→allN (b.length) (fun _=>true)=false:=fun hlt hv=>q0y hlt hv;have fin:¬i< (b.length)→allN (b.length) (fun _=>true)=true:=fun h=>q0B fun j hj=>hall j (by omega)
 try dsimp only at bad fin hall
 refine ⟨fun hlt=>⟨⟨by omega,hlt⟩,?_⟩,fun hge=> ?_⟩
 · have hv:=q7E (b.take i);have hv2:256^ (b.take i).length≤256^ 6:=Bq (by decide) (by simp;omega)
   have hc:(b.getD i Ty.u8.dflt).toNat<256:=B9 _;have e1:IntKind.i64.wrap ((beN (b.take i):Int)*2^ min 8 64)=((beN (b.take i)*256:Nat):Int):=by
    rw [show ((beN (b.take i):Int)*2^ min 8 64)=((beN (b.take i)*256:Nat):Int) by simp]
    exact wrapi (by omega)
   have e2:IntKind.i64.wrap ((b.getD i Ty.u8.dflt).toNat:Int)=(((b.getD i Ty.u8.dflt).toNat:Nat):Int):=wrapi (by omega)
   have e3:=q9n (beN (b.take i)) (b.getD i Ty.u8.dflt).toNat (by omega) hc
   have e4:=q6t b i hlt;rw [e1,e2];refine ⟨hlt,trivial,⟨[],rfl⟩,?_⟩;with_reducible refine sx1 hwr ?_
   rw [e4];exact congrArg (Value.int .i64) e3
 obtain rfl:i=b.length:=by omega
 rw [AA]
def minLen:Nat→Nat
 |1=>128|2=>256|3=>65536|_=>0
def measE(b:List UInt8)(at_ n:Nat):Nat×Nat×Nat:=if b.length-at_<n then (0,0,4) else (at_,at_+n,0)
def meas(b:List UInt8):Nat×Nat×Nat:=
 if b.length<2 then (0,0,4) else
 if (b.getD 1 0).toNat<128 then measE b 2 (b.getD 1 0).toNat else
 if (b.getD 1 0).toNat-128<1∨3< (b.getD 1 0).toNat-128 then (0,0,6) else
 if b.length<2+ ((b.getD 1 0).toNat-128) then (0,0,4) else
 if beN ((b.drop 2).take ((b.getD 1 0).toNat-128)) <minLen ((b.getD 1 0).toNat-128) then (0,0,6) else
 measE b (2+ ((b.getD 1 0).toNat-128)) (beN ((b.drop 2).take ((b.getD 1 0).toNat-128)))
def measV(m:Nat×Nat×Nat):SV:=.tup [rI m.1,rI m.2.1,rI m.2.2]
theorem z6u(b:List UInt8)(hb:b.length≤1099511627776):PC Tryz.prog 243 [.isl .u8 b] (measV (meas b)):=by
 refine q0w rfl rfl ?_;have hx:(b.getD 1 Ty.u8.dflt).toNat<256:=B9 _;have e0:IntKind.i64.wrap ((b.getD 1 Ty.u8.dflt).toNat:Int)=(((b.getD 1 Ty.u8.dflt).toNat:Nat):Int):=wrapi (by omega)
 have e1:IntKind.i64.wrap (((b.getD 1 Ty.u8.dflt).toNat:Int) -128)=((b.getD 1 Ty.u8.dflt).toNat:Int) -128:=wrapi (by omega)
 have e2:IntKind.i64.wrap (2+ (((b.getD 1 Ty.u8.dflt).toNat:Int) -128))=2+ (((b.getD 1 Ty.u8.dflt).toNat:Int) -128):=wrapi (by omega)
 have e3:IntKind.i64.wrap ((b.length:Int) -2)=(b.length:Int) -2:=wrapi (by omega)
 have e4:IntKind.i64.wrap (2+ ((b.getD 1 Ty.u8.dflt).toNat:Int))=2+ ((b.getD 1 Ty.u8.dflt).toNat:Int):=wrapi (by omega)
 have hm:∀r,meas b=r→measV (meas b)=measV r:=fun r h=>by rw [h]
 unfold measV;refine ry5 fi243 e0 e1 e2 e3 e4 ?_;have hd:b.getD 1 0=b.getD 1 Ty.u8.dflt:=rfl;generalize hxx:b.getD 1 Ty.u8.dflt=x at*;refine ⟨fun h=> ?_,fun h=>⟨by omega,fun h2=>⟨fun h3=>⟨fun h4=> ?_,fun h4=>⟨fun h5=> ?_,fun h5=>⟨⟨by omega,by omega,by omega⟩,?_⟩⟩⟩,fun h3=> ?_⟩,fun h2=>⟨fun h3=> ?_,fun h3=> ?_⟩⟩⟩
 · have:meas b=(0,0,4):=by unfold meas;rw [if_pos (by omega)]
   rw [this];rfl
 · have:meas b=(0,0,6):=by unfold meas;rw [hd,if_neg (by omega),if_neg (by omega),if_pos (by omega)]
   rw [this];rfl
 · have:meas b=(0,0,4):=by unfold meas;rw [hd,if_neg (by omega),if_neg (by omega),if_neg (by omega),if_pos (by omega)]
   rw [this];rfl
 · obtain ⟨m,hxm⟩:∃m:Nat,(x.toNat:Int) -128=(m:Int):=⟨x.toNat-128,by omega⟩
   have hm3:1≤m∧m≤3:=by omega
   have ht2:((2:Int)+ (m:Int)).toNat=2+m:=by omega
   have hll:(List.drop 2 (List.take (2+m) b)).length=m:=by simp;omega
   rw [hxm,ht2,hll];generalize hL:List.drop 2 (List.take (2+m) b)=L at*;have hmq:∀v,beN L=v→meas b=(if v<minLen m then (0,0,6) else measE b (2+m) v):=fun v hv=>by
    have hLx:(b.drop 2).take m=L:=by rw [←hL,BB];congr 1;omega
    unfold meas;rw [hd,show x.toNat-128=m by omega,if_neg (by omega),if_neg (by omega),if_neg (by omega),if_neg (by omega),hLx,hv]
   rcases (by omega:m=1∨m=2∨m=3) with rfl|rfl|rfl
   · refine q0X (fun i=>[(5,rI (beN (L.take i))),(39,.raw (.int .i64 ((i:Nat):Int)))]) (1) (fun j=>(fun _=>true) j=true) (by first|decide|simp) (fun i=>rfl) ?_ fun i hi hall=> ?_
     · (with_reducible refine sxE ?_<;>try exact True.intro)
       all_goals (try rfl)
     have hwr:=wsx i (by omega)
     refine gQ ?_;have bad:i< (1)→(fun _=>true) i=false→allN (1) (fun _=>true)=false:=fun hlt hv=>q0y hlt hv;have fin:¬i< (1)→allN (1) (fun _=>true)=true:=fun h=>q0B fun j hj=>hall j (by omega)
     try dsimp only at bad fin hall
     refine ⟨fun hlt=>⟨⟨by omega,by omega⟩,?_⟩,fun hge=> ?_⟩
     · have hv:=q7E (L.take i);have hv2:256^ (L.take i).length≤256^ 6:=Bq (by decide) (by simp;omega)
       have hc:(L.getD i Ty.u8.dflt).toNat<256:=B9 _;have e1:IntKind.i64.wrap ((beN (L.take i):Int)*2^ min 8 64)=((beN (L.take i)*256:Nat):Int):=by
        rw [show ((beN (L.take i):Int)*2^ min 8 64)=((beN (L.take i)*256:Nat):Int) by simp]
        exact wrapi (by omega)
       have e2:IntKind.i64.wrap ((L.getD i Ty.u8.dflt).toNat:Int)=(((L.getD i Ty.u8.dflt).toNat:Nat):Int):=wrapi (by omega)
       have e3:=q9n (beN (L.take i)) (L.getD i Ty.u8.dflt).toNat (by omega) hc
       have e4:=q6t L i (by omega)
       rw [e1,e2];refine ⟨hlt,trivial,⟨[],rfl⟩,?_⟩;with_reducible refine sx1 hwr ?_
       rw [e4];exact congrArg (Value.int .i64) e3
     rw [Ah (by omega:L.length≤i)]
     have hv:=q7E L;rw [hll] at hv;have hv3:beN L<16777216:=by omega
     have w1:IntKind.i64.wrap ((b.length:Int) - (2+ ((1:Nat):Int)))=(b.length:Int) - (2+ ((1:Nat):Int)):=wrapi (by omega)
     have w2:IntKind.i64.wrap (2+ ((1:Nat):Int)+ (beN L:Int))=((2+1+beN L:Nat):Int):=by rw [wrapi (by omega)];omega
     rw [w1,w2];refine ⟨by decide,fun q=> ?_,fun q=>⟨fun q2=> ?_,fun q2=> ?_⟩⟩
     · rw [hmq _ rfl,if_pos (by simp only [minLen];omega)];rfl
     · rw [hmq _ rfl,if_neg (by simp only [minLen];omega)];unfold measE;rw [if_pos (by omega)];rfl
     rw [hmq _ rfl,if_neg (by simp only [minLen];omega)];unfold measE;rw [if_neg (by omega)];rfl
   · refine q0X (fun i=>[(5,rI (beN (L.take i))),(39,.raw (.int .i64 ((i:Nat):Int)))]) (2) (fun j=>(fun _=>true) j=true) (by first|decide|simp) (fun i=>rfl) ?_ fun i hi hall=> ?_
     · (with_reducible refine sxE ?_<;>try exact True.intro)
       all_goals (try rfl)
     have hwr:=wsx i (by omega)
     refine gQ ?_;have bad:i< (2)→(fun _=>true) i=false→allN (2) (fun _=>true)=false:=fun hlt hv=>q0y hlt hv;have fin:¬i< (2)→allN (2) (fun _=>true)=true:=fun h=>q0B fun j hj=>hall j (by omega)
     try dsimp only at bad fin hall
     refine ⟨fun hlt=>⟨⟨by omega,by omega⟩,?_⟩,fun hge=> ?_⟩
     · have hv:=q7E (L.take i);have hv2:256^ (L.take i).length≤256^ 6:=Bq (by decide) (by simp;omega)
       have hc:(L.getD i Ty.u8.dflt).toNat<256:=B9 _;have e1:IntKind.i64.wrap ((beN (L.take i):Int)*2^ min 8 64)=((beN (L.take i)*256:Nat):Int):=by
        rw [show ((beN (L.take i):Int)*2^ min 8 64)=((beN (L.take i)*256:Nat):Int) by simp]
        exact wrapi (by omega)
       have e2:IntKind.i64.wrap ((L.getD i Ty.u8.dflt).toNat:Int)=(((L.getD i Ty.u8.dflt).toNat:Nat):Int):=wrapi (by omega)
       have e3:=q9n (beN (L.take i)) (L.getD i Ty.u8.dflt).toNat (by omega) hc
       have e4:=q6t L i (by omega)
       rw [e1,e2];refine ⟨hlt,trivial,⟨[],rfl⟩,?_⟩;with_reducible refine sx1 hwr ?_
       rw [e4];exact congrArg (Value.int .i64) e3
     rw [Ah (by omega:L.length≤i)]
     have hv:=q7E L;rw [hll] at hv;have hv3:beN L<16777216:=by omega
     have w1:IntKind.i64.wrap ((b.length:Int) - (2+ ((2:Nat):Int)))=(b.length:Int) - (2+ ((2:Nat):Int)):=wrapi (by omega)
     have w2:IntKind.i64.wrap (2+ ((2:Nat):Int)+ (beN L:Int))=((2+2+beN L:Nat):Int):=by rw [wrapi (by omega)];omega
     rw [w1,w2];refine ⟨by decide,fun q=> ?_,fun q=>⟨fun q2=> ?_,fun q2=> ?_⟩⟩
     · rw [hmq _ rfl,if_pos (by simp only [minLen];omega)];rfl
     · rw [hmq _ rfl,if_neg (by simp only [minLen];omega)];unfold measE;rw [if_pos (by omega)];rfl
     rw [hmq _ rfl,if_neg (by simp only [minLen];omega)];unfold measE;rw [if_neg (by omega)];rfl
   refine q0X (fun i=>[(5,rI (beN (L.take i))),(39,.raw (.int .i64 ((i:Nat):Int)))]) (3) (fun j=>(fun _=>true) j=true) (by first|decide|simp) (fun i=>rfl) ?_ fun i hi hall=> ?_
   · (with_reducible refine sxE ?_<;>try exact True.intro)
     all_goals (try rfl)
   have hwr:=wsx i (by omega)
   refine gQ ?_;have bad:i< (3)→(fun _=>true) i=false→allN (3) (fun _=>true)=false:=fun hlt hv=>q0y hlt hv;have fin:¬i< (3)→allN (3) (fun _=>true)=true:=fun h=>q0B fun j hj=>hall j (by omega)
   try dsimp only at bad fin hall
   refine ⟨fun hlt=>⟨⟨by omega,by omega⟩,?_⟩,fun hge=> ?_⟩
   · have hv:=q7E (L.take i);have hv2:256^ (L.take i).length≤256^ 6:=Bq (by decide) (by simp;omega)
     have hc:(L.getD i Ty.u8.dflt).toNat<256:=B9 _;have e1:IntKind.i64.wrap ((beN (L.take i):Int)*2^ min 8 64)=((beN (L.take i)*256:Nat):Int):=by
      rw [show ((beN (L.take i):Int)*2^ min 8 64)=((beN (L.take i)*256:Nat):Int) by simp]
      exact wrapi (by omega)
     have e2:IntKind.i64.wrap ((L.getD i Ty.u8.dflt).toNat:Int)=(((L.getD i Ty.u8.dflt).toNat:Nat):Int):=wrapi (by omega)
     have e3:=q9n (beN (L.take i)) (L.getD i Ty.u8.dflt).toNat (by omega) hc
     have e4:=q6t L i (by omega)
     rw [e1,e2];refine ⟨hlt,trivial,⟨[],rfl⟩,?_⟩;with_reducible refine sx1 hwr ?_
     rw [e4];exact congrArg (Value.int .i64) e3
   rw [Ah (by omega:L.length≤i)]
   have hv:=q7E L;rw [hll] at hv;have hv3:beN L<16777216:=by omega
   have w1:IntKind.i64.wrap ((b.length:Int) - (2+ ((3:Nat):Int)))=(b.length:Int) - (2+ ((3:Nat):Int)):=wrapi (by omega)
   have w2:IntKind.i64.wrap (2+ ((3:Nat):Int)+ (beN L:Int))=((2+3+beN L:Nat):Int):=by rw [wrapi (by omega)];omega
   rw [w1,w2];refine ⟨by decide,fun q=> ?_,fun q=>⟨fun q2=> ?_,fun q2=> ?_⟩⟩
   · rw [hmq _ rfl,if_pos (by simp only [minLen];omega)];rfl
   · rw [hmq _ rfl,if_neg (by simp only [minLen];omega)];unfold measE;rw [if_pos (by omega)];rfl
   rw [hmq _ rfl,if_neg (by simp only [minLen];omega)];unfold measE;rw [if_neg (by omega)];rfl
 · have:meas b=(0,0,6):=by unfold meas;rw [hd,if_neg (by omega),if_neg (by omega),if_pos (by omega)]
   rw [this];rfl
 · have:meas b=(0,0,4):=by unfold meas;rw [hd,if_neg (by omega),if_pos (by omega)];unfold measE;rw [if_pos (by omega)]
   rw [this];rfl
 have:meas b=(2,2+x.toNat,0):=by unfold meas;rw [hd,if_neg (by omega),if_pos (by omega)];unfold measE;rw [if_neg (by omega)]
 rw [this];rfl
def byteOf(x:Int):UInt8:=UInt8.ofNat (IntKind.u8.wrap x).toNat
theorem u8wrap(x:Int):0≤IntKind.u8.wrap x∧IntKind.u8.wrap x<256:=by
 have h:IntKind.u8.wrap x=x%256:=by simp [IntKind.wrap,IntKind.bits,IntKind.signed]
 rw [h];omega
theorem q5C(x:Int):((UInt8.ofNat (IntKind.u8.wrap x).toNat).toNat:Int)=IntKind.u8.wrap x:=by
 have:=u8wrap x;rw [Cr];omega
theorem j3o(c:UInt8):((UInt8.ofNat c.toNat).toNat:Int)=c.toNat:=by simp
def lenS(n:Nat):List UInt8:=
 if n<128 then [byteOf n] else if n<256 then [129,byteOf n] else if n<65536 then [130,byteOf ((n:Int).fdiv 256),byteOf n] else [131,byteOf ((n:Int).fdiv 65536),byteOf ((n:Int).fdiv 256),byteOf n]
def tlv(tag:UInt8)(c:List UInt8):List UInt8:=tag :: (lenS c.length++c)
def elemS(tag:UInt8)(parts:List (List UInt8)):List UInt8:=if parts.flatten.length≤16777215 then tlv tag parts.flatten else []
def flatN(parts:List (List UInt8))(i:Nat):List UInt8:=(parts.take i).flatten
theorem q5z{parts:List (List UInt8)}{i:Nat}(h:i<parts.length):flatN parts (i+1)=flatN parts i++parts.getD i (Ty.slice .u8).dflt:=by
 unfold flatN;rw [q0W (d:=(Ty.slice .u8).dflt) h];simp
theorem z0O(parts:List (List UInt8)):flatN parts parts.length=parts.flatten:=by unfold flatN;rw [AA]
theorem q9Y(parts:List (List UInt8))(i:Nat):(flatN parts i).length≤parts.flatten.length:=by
 unfold flatN;have:=congrArg List.flatten (Bb i parts);rw [List.flatten_append] at this;rw [←this];simp
def fitAt(parts:List (List UInt8))(j:Nat):Bool:=decide ((flatN parts (j+1)).length≤16777215)

theorem z7Y(tag:UInt8)(parts:List (List UInt8))(hp:parts.length≤1125899906842624):PC Tryz.prog 149 [.raw (.int .u8 tag.toNat),.isl (.slice .u8) parts] (.isl .u8 (elemS tag parts)):=by
 refine q0q rfl rfl ?_;refine rQ fi149 ?_;refine q0X (fun i=>[(5,rI ((flatN parts i).length)),(13,.raw (.int .i64 ((i:Nat):Int)))]) (parts.length) (fun j=>(fitAt parts) j=true) (by first|decide|simp) (fun i=>rfl) ?_ fun i hi hall=> ?_
 · (with_reducible refine sxE ?_<;>try exact True.intro)
   all_goals (try rfl)
 have hwr:=wsx i (by omega)
 refine gQ ?_;have bad:i< (parts.length)→(fitAt parts) i=false→allN (parts.length) (fitAt parts)=false:=fun hlt hv=>q0y hlt hv;have fin:¬i< (parts.length)→allN (parts.length) (fitAt parts)=true:=fun h=>q0B fun j hj=>hall j (by omega)
 try dsimp only at bad fin hall
 have hn:(flatN parts i).length≤16777215:=by
  cases i with
  |zero=>simp [flatN]
  |succ j=>have:=hall j (by omega);simpa [fitAt] using this
 rw [wrapi (n:=16777215- ((flatN parts i).length:Int)) (by omega),wrapi (n:=((flatN parts i).length:Int)+5) (by omega)]
 refine ⟨fun hlt=>⟨⟨by omega,hlt⟩,fun hbig=> ?_,fun hfit=> ?_⟩,fun hge=> ?_⟩
 · have h1:=q9Y parts (i+1);rw [q5z hlt,Ae] at h1;unfold elemS;rw [if_neg (by omega)]
 · have h2:((flatN parts i).length:Int)+ ((parts.getD i (Ty.slice .u8).dflt).length:Int)=((flatN parts (i+1)).length:Int):=by rw [q5z hlt,Ae];rfl
   have h3:(flatN parts (i+1)).length≤16777215:=by omega
   refine ⟨hlt,q0Z hall (by simpa [fitAt] using h3),⟨_,rfl⟩,?_⟩
   rw [h2,wrapi (n:=((flatN parts (i+1)).length:Int)) (by omega)]
   with_reducible refine sx1 hwr ?_;trivial
 obtain rfl:i=parts.length:=by omega
 rw [z0O] at*;have he:elemS tag parts=tag :: (lenS parts.flatten.length++flatN parts parts.length):=by unfold elemS tlv;rw [if_pos hn,z0O]
 refine ⟨⟨by omega,by omega,by omega⟩,j3o tag,fun h1=>⟨q5C _,?_⟩,fun h1=>⟨fun h2=>⟨?_,?_⟩,fun h2=>⟨fun h3=>⟨?_,?_⟩,fun h3=>⟨?_,?_⟩⟩⟩⟩
 any_goals (repeat' (first|exact q5C _|exact rfl|with_reducible refine And.intro ?_ ?_))
 have hL:lenS parts.flatten.length= [byteOf parts.flatten.length]:=by unfold lenS;rw [if_pos (by omega)]
 rotate_left
 have hL:lenS parts.flatten.length= [129,byteOf parts.flatten.length]:=by unfold lenS;rw [if_neg (by omega),if_pos (by omega)]
 rotate_left
 have hL:lenS parts.flatten.length= [130,byteOf ((parts.flatten.length:Int).fdiv 256),byteOf parts.flatten.length]:=by unfold lenS;rw [if_neg (by omega),if_neg (by omega),if_pos (by omega)]
 rotate_left
 have hL:lenS parts.flatten.length= [131,byteOf ((parts.flatten.length:Int).fdiv 65536),byteOf ((parts.flatten.length:Int).fdiv 256),byteOf parts.flatten.length]:=by unfold lenS;rw [if_neg (by omega),if_neg (by omega),if_neg (by omega)]
 rotate_left
 all_goals
  refine j1H (H:=[_,_,_,_]) 8 .u8 (fun i=>tag :: (lenS parts.flatten.length++flatN parts i)) (fun i=>[(44,.any),(52,.any),(60,.any),(71,.any),(74,rI i)]) parts.length (fun _=>True) (by rw [hL];simp [flatN,byteOf]) (by simp) rfl (fun i=>rfl) ?_ fun i hi _=> ?_
  · with_reducible refine sx1 hL ?_
    simp [flatN]
  have hwr:=wsx i (by omega)
  have hfl:=q9Y parts i;have hll:(lenS parts.flatten.length).length≤4:=by rw [hL];simp
  refine gQ ?_;have e1:(lenS parts.flatten.length++flatN parts i).length=(lenS parts.flatten.length).length+ (flatN parts i).length:=Ae;refine ⟨fun hlt=> ?_,fun hge=> ?_⟩
  · have h4:=q9Y parts (i+1);have h5:=q5z hlt;rw [h5,Ae] at h4;refine ⟨⟨by omega,hlt⟩,⟨by omega,by omega⟩,q2g [.dead] [] hlt trivial (by rw [h5,←List.append_assoc];rfl) ?_⟩
    with_reducible refine sx3 hwr h5 ?_
    exact congrArg (SV.bld 5 .u8) (by omega)
  obtain rfl:i=parts.length:=by omega
  rw [Ah (Af _)];exact ⟨⟨Af _,by omega⟩,he.symm⟩
def byteAt(v:Int)(k:Nat):UInt8:=byteOf (v.fdiv (2^ min (8*k) 64))
def numN(v:Int)(size i:Nat):List UInt8:=(List.range size).map fun j=>if size-1-j<i then byteAt v (size-1-j) else 0
def numS(v:Int)(size:Nat):List UInt8:=(List.range size).map fun j=>byteAt v (size-1-j)
theorem z6e(v:Int)(size:Nat):List.replicate size (0:UInt8)=numN v size 0:=by
 apply AO
 · simp [numN]
 intro j h1 h2;simp [numN]
theorem z8L(v:Int)(size:Nat):numN v size size=numS v size:=by
 apply AO
 · simp [numN,numS]
 intro j h1 h2;simp [numN,numS];simp [numN] at h1;intro h;omega
theorem j0h{v:Int}{size i:Nat}(h:i<size):(numN v size i).set (size-1-i) (byteAt v i)=numN v size (i+1):=by
 apply AO
 · simp [numN]
 intro j h1 h2;simp [numN] at h2;simp only [numN,BJ,AZ,AU];split
 · rename_i e;have:size-1-j=i:=by omega
   rw [this,if_pos (by omega)]
 rename_i e;by_cases h3:size-1-j<i
 · rw [if_pos h3,if_pos (by omega)]
 rw [if_neg h3,if_neg (by omega)]
theorem z3E(v:Int)(size:Nat)(hs:size≤64):PC Tryz.prog 152 [rI v,rI size] (.isl .u8 (numS v size)):=by
 refine q0q rfl rfl ?_;refine rQ fi152 ?_;refine ⟨by omega,?_⟩
 refine q0x (ι:=Nat) (fun i=>[(11,rI i)]) (fun i=>[.row .u8 (numN v size i)]) (fun i=>size-i) (fun i=>i≤size) 0 (Al _) (by rw [←z6e];rfl) ?_ ?_
 · with_reducible refine sxE ?_;trivial
 intro i hi;have w3:IntKind.i64.wrap (8* (i:Int))=((8*i:Nat):Int):=by rw [wrapi (by omega)];rfl
 have hwr:=wsx i (by omega)
 have hln:(numN v size i).length=size:=by simp [numN]
 by_cases hlt:i<size
 · have w1:IntKind.i64.wrap ((size:Int) -1)=((size-1:Nat):Int):=by rw [wrapi (by omega)];omega
   have w2:IntKind.i64.wrap (((size-1:Nat):Int) - (i:Int))=((size-1-i:Nat):Int):=by rw [wrapi (by omega)];omega
   refine gy4 w1 w2 w3 hln ?_;refine ⟨fun _=>⟨by omega,⟨by omega,by omega⟩,⟨by omega,q5C _⟩,i+1,hlt,by dsimp only;omega,?_,?_⟩,fun h=>absurd hlt h⟩
   · dsimp only;rw [←j0h hlt,Nat.zero_add];rfl
   with_reducible refine sx1 hwr ?_;trivial
 refine uQ 600 _ ?_;with_reducible refine sx1 hln ?_
 refine ⟨fun h=>absurd h hlt,fun _=>⟨⟨by omega,by omega⟩,?_⟩⟩
 obtain rfl:i=size:=by omega
 rw [z8L,Ah (by simp [numS])]
theorem q2r(tag:UInt8)(n:Int)(hn:n=tag.toNat)(parts:List (List UInt8))(hp:parts.length≤1125899906842624):PC Tryz.prog 149 [.raw (.int .u8 n),.isl (.slice .u8) parts] (.isl .u8 (elemS tag parts)):=by
 subst hn;exact z7Y tag parts hp

def restN(v:Int):Nat→Int
 |0=>v
 |k+1=>(restN v k).fdiv 256
def firstN(n:Nat)(q:Nat→Bool):Option Nat:=(List.range n).find? q
theorem q4A{n i:Nat}{q:Nat→Bool}(hi:i<n)(hq:q i=true)(hn:∀j,j<i→q j=false):firstN n q=some i:=by
 unfold firstN;rw [List.find?_range_eq_some];exact ⟨hq,by simpa using hi,fun j hj=>by rw [hn j hj];rfl⟩
theorem q6J{n:Nat}{q:Nat→Bool}(hn:∀j,j<n→q j=false):firstN n q=none:=by
 unfold firstN;rw [List.find?_range_eq_none];exact fun j hj=>by rw [hn j hj];rfl
theorem q3m{n i:Nat}{q:Nat→Bool}(h:firstN n q=some i):i<n∧q i=true∧∀j,j<i→q j=false:=by
 unfold firstN at h;rw [List.find?_range_eq_some] at h;exact ⟨by simpa using h.2.1,h.1,fun j hj=>by simpa using h.2.2 j hj⟩
def oneB(v:Int)(k:Nat):Bool:=decide (-128≤restN v k) && decide (restN v k≤127)
def intSz(v:Int):Nat:=1+ (firstN 9 (oneB v)).getD 0
def intS(v:Int):List UInt8:=if -4611686018427387904≤v∧v≤4611686018427387904 then elemS 2 [numS v (intSz v)] else []
theorem fdiv256(r:Int):r.fdiv 256=r / 256:=A8 r (by decide)
theorem rest8{v:Int}(h1: -4611686018427387904≤v)(h2:v≤4611686018427387904):oneB v 8=true:=by
 simp only [oneB,restN,fdiv256,Ai,decide_eq_true_eq];omega
theorem q3J(v:Int):PC Tryz.prog 93 [rI v] (.isl .u8 (intS v)):=by
 refine q0q rfl rfl ?_;refine rQ fi93 ?_<;>try with_reducible exact True.intro
 repeat' (first
  | (with_reducible refine And.intro ?_ ?_)
  | (with_reducible intro _))
 all_goals (skip)
 · unfold intS;rw [if_neg (by omega)]
 rotate_left
 · unfold intS;rw [if_neg (by omega)]
 rename_i h1 h2;have h8:=rest8 (v:=v) (by omega) (by omega)
 refine q0x (ι:=Nat) (fun k=>[(3,rI ((1+k:Nat):Int)),(4,rI (restN v k))]) (fun _=>[]) (fun k=>9-k) (fun k=>k≤8∧∀j,j<k→oneB v j=false) 0 ⟨by omega,fun j hj=>absurd hj (by omega)⟩ rfl ?_ ?_
 · simp (maxSteps:=3000000) only [restN,go_sem,↓zA,↓reduceIte,↓reduceDIte] <;>try simp only [zB]
   rfl
 rintro k ⟨hk,hall⟩;have hwr:IntKind.i64.wrap (((1+k:Nat):Int)+1)=((1+ (k+1):Nat):Int):=by rw [wrapi (by omega)];omega
 refine gy1 hwr ?_;have hp:(2:Int) ^ min 8 64=256:=by decide
 refine ⟨fun h3=>⟨fun h4=> ?_,fun h4=> ?_⟩,fun h3=> ?_⟩
 · have ho:oneB v k=false:=by simp [oneB];omega
   have hk8:k≠8:=fun e=>by subst e;rw [h8] at ho;cases ho
   refine ⟨k+1,⟨by omega,q0Z hall ho⟩,by dsimp only;omega,rfl,?_⟩
   simp (maxSteps:=3000000) only [restN,hp,go_sem,↓zA,↓reduceIte,↓reduceDIte] <;>try simp only [zB]
 · have ho:oneB v k=true:=by simp [oneB];omega
   have hz:intSz v=1+k:=by unfold intSz;rw [q4A (by omega) ho hall];rfl
   refine cQ (z3E v (1+k) (by omega)) ?_
   refine q0z 0 ?_;with_reducible refine sxE ?_
   refine cQ (q2r 2 2 rfl _ (by simp)) ?_
   unfold intS;rw [if_pos (by omega),hz]
 have ho:oneB v k=false:=by simp [oneB];omega
 have hk8:k≠8:=fun e=>by subst e;rw [h8] at ho;cases ho
 refine ⟨k+1,⟨by omega,q0Z hall ho⟩,by dsimp only;omega,rfl,?_⟩
 simp (maxSteps:=3000000) only [restN,hp,go_sem,↓zA,↓reduceIte,↓reduceDIte] <;>try simp only [zB]
theorem j0d(b:List UInt8):PC Tryz.prog 202 [.isl .u8 b] (.isl .u8 (elemS 4 [b])):=by
 refine q0q rfl rfl ?_;refine rQ fi202 ?_;refine q0z 0 ?_;with_reducible refine sxE ?_
 refine cQ (q2r 4 4 rfl _ (by simp)) ?_;trivial
def timeS(t:Int):List UInt8:=if 0≤t∧t≤1099511627776 then elemS 24 [numS t 6] else []
theorem j3Q(t:Int):PC Tryz.prog 92 [rI t] (.isl .u8 (timeS t)):=by
 refine q0q rfl rfl ?_;refine rQ fi92 ?_;refine ⟨fun h1=>⟨fun h2=> ?_,fun h2=> ?_⟩,fun h1=> ?_⟩
 · unfold timeS;rw [if_neg (by omega)]
 · refine q0a (z3E t 6 (by omega)) ?_
   refine gQ ?_;refine q0z 0 ?_;with_reducible refine sxE ?_
   refine cQ (q2r 24 24 rfl _ (by simp)) ?_
   unfold timeS;rw [if_pos (by omega)]
 unfold timeS;rw [if_neg (by omega)]
theorem q1T(l:List (List UInt8))(hl:l.length≤1125899906842624):PC Tryz.prog 89 [.isl (.slice .u8) l] (.isl .u8 (elemS 48 l)):=by
 refine q0q rfl rfl ?_;refine rQ fi89 ?_;refine cQ (q2r 48 48 rfl _ hl) ?_;trivial
def wrapS(tag n:Int)(b:List UInt8):List UInt8:=if 0≤n∧n≤30∧b≠ [] then elemS (byteOf (tag+n)) [b] else []
theorem z7O(tag n:Int)(b:List UInt8)(ht:0≤tag∧tag≤1000):PC Tryz.prog 150 [rI tag,rI n,.isl .u8 b] (.isl .u8 (wrapS tag n b)):=by
 refine q0q rfl rfl ?_;refine rQ fi150 ?_;refine ⟨fun h1=>⟨fun h2=>⟨fun h3=> ?_,fun h3=> ?_⟩,fun h2=> ?_⟩,fun h1=> ?_⟩
 · unfold wrapS;rw [if_neg (fun h=>h.2.2 (Bj.1 (by omega)))]
 · refine q0z 0 ?_;with_reducible refine sxE ?_
   refine q0a (q2r (byteOf (tag+n)) _ ?_ _ (by simp)) ?_
   · rw [wrapi (by omega)];exact (q5C _).symm
   refine gQ ?_;unfold wrapS;rw [if_pos ⟨by omega,by omega,fun e=>h3 (by rw [e];rfl)⟩]
 · unfold wrapS;rw [if_neg (by omega)]
 unfold wrapS;rw [if_neg (by omega)]
theorem q1J(n:Int)(b:List UInt8):PC Tryz.prog 90 [rI n,.isl .u8 b] (.isl .u8 (wrapS 160 n b)):=by
 refine q0q rfl rfl ?_;refine rQ fi90 ?_;refine cQ (z7O 160 n b (by omega)) ?_;trivial
theorem z0G(s:ByteArray)(hs:s.size≤140737488355328):PC Tryz.prog 200 [rS s] (.isl .u8 (elemS 27 [s.data.toList])):=by
 refine q0q rfl rfl ?_;refine q4r fi200 (q0v mixed 8 _ ?_);simp (maxSteps:=3000000) only [ir200,go_sem,↓zA,↓reduceIte,↓reduceDIte] <;>try simp only [zB]
 have hl:(bytesOf s).length=s.size:=by simp [bytesOf]
 refine q1u 0 rfl rfl (by omega) ?_ ?_ ?_
 · with_reducible refine sxE ?_;trivial
 · with_reducible refine sxE ?_
   omega
 with_reducible refine sxE ?_
 refine gQ ?_;refine q0z 1 ?_;with_reducible refine sxE ?_
 rw [Ah (by omega)]
 refine cQ (q2r 27 27 rfl _ (by simp)) ?_
 rfl
def fullAt(l:List (List UInt8))(j:Nat):Bool:=decide (l.getD j (Ty.slice .u8).dflt≠ [])
def wholeS(l:List (List UInt8)):List UInt8:=if allN l.length (fullAt l) then elemS 48 l else []
theorem j0Z(l:List (List UInt8))(hl:l.length≤1125899906842624):PC Tryz.prog 232 [.isl (.slice .u8) l] (.isl .u8 (wholeS l)):=by
 refine q0q rfl rfl ?_;refine rQ fi232 ?_;refine q0X (fun i=>[(7,.raw (.int .i64 ((i:Nat):Int)))]) (l.length) (fun j=>(fullAt l) j=true) (by first|decide|simp) (fun i=>rfl) ?_ fun i hi hall=> ?_
 · (with_reducible refine sxE ?_<;>try exact True.intro)
   all_goals (try rfl)
 have hwr:=wsx i (by omega)
 refine gQ ?_;have bad:i< (l.length)→(fullAt l) i=false→allN (l.length) (fullAt l)=false:=fun hlt hv=>q0y hlt hv;have fin:¬i< (l.length)→allN (l.length) (fullAt l)=true:=fun h=>q0B fun j hj=>hall j (by omega)
 try dsimp only at bad fin hall
 refine ⟨fun hlt=>⟨⟨by omega,hlt⟩,fun h0=> ?_,fun h0=> ?_⟩,fun hge=>q0a (q1T l hl) ?_⟩
 · have:fullAt l i=false:=by simp only [fullAt,decide_eq_false_iff_not,ne_eq,Classical.not_not];exact Bj.1 (by omega)
   unfold wholeS;rw [bad hlt this];rfl
 · refine ⟨hlt,q0Z hall ?_,⟨_,rfl⟩,?_⟩
   · simp only [fullAt,decide_eq_true_eq];exact fun e=>h0 (by rw [e];rfl)
   with_reducible refine sx1 hwr ?_;trivial
 refine gQ ?_;unfold wholeS;rw [fin hge];rfl
def tagN(l:List (List UInt8))(i:Nat):List (List UInt8):=(List.range i).map fun (j:Nat)=>wrapS 160 j (l.getD j (Ty.slice .u8).dflt)
theorem z5X(l:List (List UInt8))(i:Nat):tagN l (i+1)=tagN l i++ [wrapS 160 i (l.getD i (Ty.slice .u8).dflt)]:=by simp [tagN,CW]
def fieldsS(l:List (List UInt8)):List UInt8:=wholeS (tagN l l.length)
theorem z9n(l:List (List UInt8))(hl:l.length≤1048576):PC Tryz.prog 201 [.isl (.slice .u8) l] (.isl .u8 (fieldsS l)):=by
 refine q0q rfl rfl ?_;refine rQ fi201 ?_;refine q3G 3 (.slice .u8) (fun i=>tagN l i) (fun i=>[(8,rI i)]) l.length (fun _=>True) rfl (by simp) (by simp [tagN]) rfl (fun i=>rfl) ?_ fun i hi _=> ?_
 · with_reducible refine sxE ?_;trivial
 have hwr:=wsx i (by omega)
 have hln:(tagN l i).length=i:=by simp [tagN]
 have hst:=z5X l i;refine gQ ?_;refine ⟨fun hlt=>⟨⟨by omega,hlt⟩,q0a (q1J _ _) ?_⟩,fun hge=> ?_⟩
 · refine gQ ?_;refine ⟨⟨by omega,by omega⟩,q2g [_,_] [] hlt trivial (by rw [hst];rfl) ?_⟩
   with_reducible refine sx3 hwr hst ?_;trivial
 obtain rfl:i=l.length:=by omega
 refine q0z 0 ?_;with_reducible refine sxE ?_
 refine ⟨by omega,?_⟩
 rw [Ah (by omega)]
 refine ⟨Af _,q0a (j0Z (tagN l l.length) (by omega)) ?_⟩
 refine gQ ?_;rfl
def keyS(k:Key):List UInt8:=fieldsS [intS k.1,intS k.2.1,elemS 4 [k.2.2]]
theorem z9A(p v:Int)(b:List UInt8):PC Tryz.prog 153 [rI p,rI v,.isl .u8 b] (.isl .u8 (keyS (p,v,b))):=by
 refine q0q rfl rfl ?_;refine rQ fi153 ?_;refine cQ (q3J p) ?_;refine cQ (q3J v) ?_;refine cQ (j0d b) ?_;refine q0z 0 ?_;with_reducible refine sxE ?_
 refine cQ (z9n _ (by simp)) ?_
 rfl
def dec:Bool→List UInt8→List UInt8→List (List UInt8)
 |_,cur,[]=>[cur]
 |true,cur,c :: r=>dec false (cur++ [c]) r
 |false,cur,c :: r=>if c=92 then dec true cur r else if c=47 then cur :: dec false [] r else dec false (cur++ [c]) r
def rlmR:Bool→List UInt8→Bool
 |prev,[]=> !prev
 |prev,c :: cs=>if c==46 then !prev&& rlmR true cs else realmChar c&& rlmR false cs
def labL(l:List UInt8):Bool:=decide (0<l.length) && l.all realmChar
theorem z1z:∀ (cs cur:List UInt8),(splitGo cur cs).all labL=(cur.all realmChar&& rlmR cur.isEmpty cs)
 | [],cur=>by cases cur<;>simp [splitGo,labL,rlmR,Bool.and_comm]
 |c :: cs,cur=>by
  rw [splitGo,rlmR];split
  · have:=z1z cs [];simp only [Bt,this,Cy,List.isEmpty_nil,AJ];cases cur<;>simp [labL,Bool.and_comm,Bool.and_left_comm]
  have:=z1z cs (c :: cur);rw [this,Bt,List.isEmpty_cons];cases realmChar c<;>simp
def rlmAt(prev:Bool)(l:List UInt8)(j:Nat):Bool:=
 if l.getD j 0=46 then decide (j+1<l.length) && (if j=0 then !prev else decide (l.getD (j-1) 0≠46)) else realmChar (l.getD j 0)
theorem z6E:∀ (l:List UInt8) (prev:Bool),l≠ []→rlmR prev l=allN l.length (rlmAt prev l)
 | [],_,h=>absurd rfl h
 | [c],prev,_=>by
  simp only [rlmR,allN,Bo,List.range_one,Bt,Cy,BI,rlmAt];by_cases h:c=46<;>simp [h]
 |c :: d :: l,prev,_=>by
  have ih:=z6E (d :: l) (c==46) (by simp)
  have hs:∀j,rlmAt prev (c :: d :: l) (j+1)=rlmAt (c==46) (d :: l) j:=fun j=>by
   unfold rlmAt;simp only [BT,AC,Cq];cases j with
   |zero=>
    by_cases h:c=46
    · simp [h]
    have:(c==46)=false:=by simpa using h
    simp [h,this]
   |succ j=>simp
  have ha:allN (c :: d :: l).length (rlmAt prev (c :: d :: l))=(rlmAt prev (c :: d :: l) 0&& allN (d :: l).length (rlmAt (c==46) (d :: l))):=by
   rw [BE,Ai,q2G,q2G];constructor
   · intro h;exact ⟨h 0 (by simp),fun j hj=>by rw [←hs];exact h (j+1) (by simp at hj⊢;omega)⟩
   rintro ⟨h0,h⟩ j hj;cases j with
   |zero=>exact h0
   |succ j=>rw [hs];exact h j (by simp at hj⊢;omega)
  rw [ha,←ih,rlmR];by_cases h:c=46
  · subst h;simp [rlmAt]
  have:(c==46)=false:=by simpa using h
  simp [rlmAt,h,this]
theorem z6V(s:ByteArray):realmB s=(szB s&& allN s.size (rlmAt true s.data.toList)):=by
 have h1:sizedB s=szB s:=by
  unfold sizedB szB;rw [BE];simp;omega
 have h2:(splitB s).all labelB=(splitDot s.data.toList).all labL:=by
  unfold splitB;rw [List.all_map];congr 1
 rw [realmB,h1,h2,splitDot,z1z,Cy,List.isEmpty_nil,AJ];by_cases h:s.data.toList= []
 · have:s.size=0:=by
    have:=congrArg List.length h;simpa using this
   simp [szB,this]
 rw [z6E _ _ h];first|rfl|simp
theorem q5U(p:Int):kindOf p=kind1∨kindOf p=kind2∨kindOf p=kindZ:=by
 unfold kindOf;split
 · exact .inl rfl
 split
 · exact .inr (.inl rfl)
 exact .inr (.inr rfl)
theorem q6x(k:Key):PC Tryz.prog 43 [.agg (KeyT.cells k)] (rB (vKey k)):=by
 refine q0w rfl rfl ?_;refine rQ fi43 ?_;refine q0a (j0L k) ?_;rcases q5U k.1 with h|h|h
 · rw [h];refine gQ ?_;trivial
 · rw [h];refine gQ ?_;trivial
 rw [h];refine gQ ?_;trivial
theorem j1O(l:List ByteArray)(hl:l.length≤8796093022208):PC Tryz.prog 143 [.isl .str l] (.isl .str l):=by
 refine q0q rfl rfl ?_;refine rQ fi143 ?_;intro b hb;refine ⟨hb,fun h=>⟨⟨by omega,by omega⟩,⟨by omega,by omega⟩,Ah (by omega)⟩⟩
theorem q9U(l:List UInt8)(hl:l.length≤140737488355328):PC Tryz.prog 160 [.isl .u8 l] (.isl .u8 l):=by
 refine q0q rfl rfl ?_;refine rQ fi160 ?_;intro b hb;refine ⟨hb,fun h=>⟨⟨by omega,by omega⟩,⟨by omega,by omega⟩,Ah (by omega)⟩⟩
theorem z6X(p:Prin)(hl:p.1.length≤8796093022208):PC Tryz.prog 83 [.agg (PrinT.cells p)] (.agg (PrinT.cells p)):=by
 refine q0q rfl rfl ?_;refine rQ fi83 ?_;refine cQ (j1O _ hl) ?_;trivial
def tagS(l:List (List UInt8)):List UInt8:=elemS 48 (tagN l l.length)
def strsN(l:List ByteArray)(i:Nat):List (List UInt8):=(l.take i).map fun s=>elemS 27 [s.data.toList]
theorem z4y{l:List ByteArray}{i:Nat}(h:i<l.length):strsN l (i+1)=strsN l i++ [elemS 27 [(l.getD i Ty.str.dflt).data.toList]]:=by unfold strsN;rw [q0W (d:=Ty.str.dflt) h];simp
theorem z7x{l:List ByteArray}{i:Nat}(h:i≤l.length):(strsN l i).length=i:=by simp [strsN];omega
def prinS(p:Prin):List UInt8:=elemS 48 [wrapS 160 0 (elemS 48 (strsN p.1 p.1.length)),wrapS 160 1 (elemS 27 [p.2.data.toList])]
theorem z6A(p:Prin)(hp:PrinT.ok p):PC Tryz.prog 151 [.agg (PrinT.cells p)] (.tup [.isl .u8 (if vPrin p then prinS p else []),rI (if vPrin p then 0 else 2)]):=by
 obtain ⟨l,r⟩:=p;have hps:prinS (l,r)=elemS 48 [wrapS 160 0 (elemS 48 (strsN l l.length)),wrapS 160 1 (elemS 27 [r.data.toList])]:=rfl;have hok:∀ {i},i<l.length→(l.getD i Ty.str.dflt).size≤140737488355328:=fun h=>hp.1.2 _ (q1a h);have hr:r.size≤140737488355328:=hp.2;have hv:=q4Z (l,r) hp;have hv4:vPrin (l,r)=true→l.length≤4:=fun h=>by simp [vPrin] at h;omega
 clear hp;generalize vPrin (l,r)=vb at*;generalize prinS (l,r)=ps at*;change List ByteArray at l;refine q0q rfl rfl ?_;refine rQ fi151 ?_;refine cQ hv ?_;refine ⟨fun h=> ?_,fun h=> ?_⟩
 · rw [h];exact ⟨rfl,rfl⟩
 have hl4:l.length≤4:=hv4 h;subst h;refine q3G 4 (.slice .u8) (strsN l) (fun i=>[(13,rI i)]) l.length (fun _=>True) rfl (by simp) (by simp [strsN]) rfl (fun i=>rfl) ?_ fun i hi _=> ?_
 · with_reducible refine sxE ?_;trivial
 have hwr:=wsx i (by omega)
 have hln:=z7x hi;by_cases hlt:i<l.length
 · refine gQ ?_;refine ⟨fun _=>⟨⟨by omega,hlt⟩,q0a (z0G _ (hok hlt)) ?_⟩,fun h=>absurd hlt h⟩
   refine gQ ?_;have hst:=z4y hlt;refine ⟨⟨by omega,by omega⟩,q2g [_,_] [] hlt trivial (by rw [hst];rfl) ?_⟩
   with_reducible refine sx3 hwr hst ?_;trivial
 obtain rfl:i=l.length:=by omega
 refine q1u 1 rfl rfl (by omega) ?_ ?_ ?_
 · with_reducible refine sxE ?_;trivial
 · with_reducible refine sxE ?_
   exact Af _
 with_reducible refine sxE ?_
 rw [Ah (Af _)];refine gQ ?_;refine ⟨fun h=>absurd h hlt,fun _=>q0l (q1T _ (by omega)) ?_⟩
 refine gQ ?_;refine cR (q1J _ _) ?_;refine cR (z0G r hr) ?_;refine cR (q1J _ _) ?_;refine q0I 2 (by decide) ?_
 with_reducible refine sxE ?_
 refine cR (q1T _ (by simp)) ?_
 exact hps.symm
def mapN{t:Ty}(w:t.den→List UInt8)(l:List t.den)(i:Nat):List (List UInt8):=(l.take i).map w
theorem z1g{t:Ty}{w:t.den→List UInt8}{l:List t.den}{i:Nat}(h:i<l.length):mapN w l (i+1)=mapN w l i++ [w (l.getD i t.dflt)]:=by unfold mapN;rw [q0W (d:=t.dflt) h];simp
theorem z2Y{t:Ty}{w:t.den→List UInt8}{l:List t.den}{i:Nat}(h:i≤l.length):(mapN w l i).length=i:=by simp [mapN];omega
def listS{t:Ty}(w:t.den→List UInt8)(l:List t.den):List UInt8:=if l.length=0 then [] else elemS 48 (mapN w l l.length)
def prinE(p:Prin):List UInt8:=if vPrin p then prinS p else []
end Go.Proofs.YtmapiojgmbgbgaaGreatDoor
