/- Profiles: contracts: the program seals and opens, in both profiles. -/
import Derived.Test.YthbcodbcndiapaaGreatDoorP15
set_option linter.all false
namespace Go.Proofs.YthbcodbcndiapaaGreatDoor
open Go Go.Sx Go.Proofs
set_option maxRecDepth 100000
set_option maxHeartbeats 40000000
def j5A{P:Program}{f:FuncId}{args:List SV}{s s':SV}(h:PC P f args s)(e:s=s'):PC P f args s':=e▸h
def kdL(nm:ByteArray)(kl tl:Nat)(fe fd fm:FuncId):List Value:=[.string nm,.int .i64 kl,.int .i64 16,.int .i64 tl,.int .i64 tl,fnV fe,fnV fd,fnV fm]
def z8D(nm:ByteArray)(kl tl:Nat)(fe fd fm:FuncId)(p v:Int)(b:List UInt8)(u:Nat)(conf plain ci mk:List UInt8)
 (hu:PC Tryz.prog 159 [.agg (KeyT.cells (p,v,b)),rI u] (.tup [.agg (rawL (kdL nm kl tl fe fd fm)),rI 0]))(hb1:1<=b.length)(hb2:b.length<=64)(hc:conf.length=16)(hp:plain.length<=65536)
 (hen:PC Tryz.prog fe [.isl .u8 (dkS (p,v,b) u 170),.isl .u8 conf,.isl .u8 plain] (.isl .u8 ci))(hmk:PC Tryz.prog fm [.isl .u8 (dkS (p,v,b) u 85),.isl .u8 ci] (.isl .u8 mk))(htl:tl<=mk.length)(hml:mk.length<=4096)(hci:ci.length<=1048576):
 PC Tryz.prog 90 [.agg (KeyT.cells (p,v,b)),rI u,.isl .u8 conf,.isl .u8 plain] (.tup [.agg [rI p,rI v,.isl .u8 (ci++mk.take tl)],rI 0]):=by
 unfold kdL at hu;refine q0q rfl rfl ?_;refine q1T fi90 ?_;refine gQ ?_;refine q0a hu ?_;have hcl:((conf.length:Int)=16)=True:=eq_true (by omega);have hpl:(65536< (plain.length:Int))=False:=eq_false (by omega);refine gy2 hcl hpl ?_;refine cQ (z1D (p,v,b) u hb2) ?_;refine cR (q5d (p,v,b) u 170 hb2 hb1 (by decide)) ?_;refine cR hen ?_;refine cR (q5d (p,v,b) u 85 hb2 hb1 (by decide)) ?_;refine q0c hmk ?_;refine uQ 4 _ ?_;simp (maxSteps:=3000000) only [Az,go_sem,↓zA,↓reduceIte,↓reduceDIte] <;>try simp only [zB]
 have htk:(List.take tl mk).length=tl:=by rw [Ak];omega
 have hj:=z6Q [ci,List.take tl mk] (by simp;omega) (by simp);rw [show [ci,List.take tl mk].flatten=ci++List.take tl mk by simp] at hj;refine ⟨⟨by omega,Af _,htl⟩,?_⟩;refine q1r [0] mixed ?_;refine gQ ?_;refine q0G 3 (by decide) ?_;with_reducible refine sxE ?_
 refine cR hj ?_;trivial
theorem z6r(nm:ByteArray)(kl tl:Nat)(fe fd fm:FuncId)(p v:Int)(b:List UInt8)(u:Nat)(sp sv:Int)(sb pl mk:List UInt8)
 (hu:PC Tryz.prog 159 [.agg (KeyT.cells (p,v,b)),rI u] (.tup [.agg (rawL (kdL nm kl tl fe fd fm)),rI 0]))(hb1:1<=b.length)(hb2:b.length<=64)(htl:tl<=64)(hs:sb.length<=1099511627776)
 (hmk:16+tl<=sb.length->sb.length<=65552+tl->PC Tryz.prog fm [.isl .u8 (dkS (p,v,b) u 85),.isl .u8 (sb.take (sb.length-tl))] (.isl .u8 mk))
 (hde:16+tl<=sb.length->sb.length<=65552+tl->PC Tryz.prog fd [.isl .u8 (dkS (p,v,b) u 170),.isl .u8 (sb.take (sb.length-tl))] (.isl .u8 pl))(hml:tl<=mk.length)(hmx:mk.length<=4096):
 PC Tryz.prog 92 [.agg (KeyT.cells (p,v,b)),rI u,.agg [rI sp,rI sv,.isl .u8 sb]] (.tup (if sp=p∧(sv=v∨sv=0∨v=0) then
  if sb.length<16+tl then [.isl .u8 [],rI 4] else if 65552+tl<sb.length then [.isl .u8 [],rI 5]
  else if mk.take tl=sb.drop (sb.length-tl) then [.isl .u8 pl,rI 0] else [.isl .u8 [],rI 10] else [.isl .u8 [],rI 9])):=by
 unfold kdL at hu;have hw:IntKind.i64.wrap (((sb.length:Nat):Int) - (tl:Int))=((sb.length:Nat):Int) - (tl:Int):=wrapi (by omega);have hw2:IntKind.i64.wrap (16+65536)=65552:=by rw [wrapi (by omega)];rfl
 by_cases hsp:sp=p
 . subst hsp;have f1:(sp=sp)=True:=eq_true rfl;by_cases hsv:sv=v∨sv=0∨v=0
   . rw [if_pos ⟨rfl,hsv⟩];have hcase:(((sv=v)=True)∧((sv=v)=True)∧((sv=v)=True))∨(((sv=v)=False)∧((sv=0)=True)∧((sv=0)=True))∨(((sv=v)=False)∧((sv=0)=False)∧((v=0)=True)):=by
      by_cases h1:sv=v
      . exact .inl ⟨eq_true h1,eq_true h1,eq_true h1⟩
      by_cases h2:sv=0
      . exact .inr (.inl ⟨eq_false h1,eq_true h2,eq_true h2⟩)
      exact .inr (.inr ⟨eq_false h1,eq_false h2,eq_true ((hsv.resolve_left h1).resolve_left h2)⟩)
     by_cases c1:sb.length<16+tl
     . have n1:(((sb.length:Nat):Int) - (tl:Int) <16)=True:=eq_true (by omega);rw [if_pos c1];rcases hcase with ⟨g1,g2,g3⟩ | ⟨g1,g2,g3⟩ | ⟨g1,g2,g3⟩;all_goals
        refine q0n rfl rfl ?_;refine rQ fi92 ?_;refine q0a hu ?_;refine gy8 f1 g1 g2 g3 hw n1 n1 n1 ?_;trivial
     have n1:(((sb.length-tl:Nat):Int) <16)=False:=eq_false (by omega);have n0:((sb.length:Nat):Int) - (tl:Int)=((sb.length-tl:Nat):Int):=by omega
     rw [n0] at hw;rw [if_neg c1];by_cases c2:65552+tl<sb.length
     . have n2:(65552< ((sb.length-tl:Nat):Int))=True:=eq_true (by omega);rw [if_pos c2];rcases hcase with ⟨g1,g2,g3⟩ | ⟨g1,g2,g3⟩ | ⟨g1,g2,g3⟩;all_goals
        refine q0n rfl rfl ?_;refine rQ fi92 ?_;refine q0a hu ?_;refine uQ 600 _ ?_;simp (maxSteps:=3000000) only [f1,g1,g2,g3,n0,hw,hw2,n1,n2,go_sem,↓zA,↓reduceIte,↓reduceDIte] <;>try simp only [zB]
     have n2:(65552< ((sb.length-tl:Nat):Int))=False:=eq_false (by omega);rw [if_neg c2];have hmk:=hmk (by omega) (by omega);have hde:=hde (by omega) (by omega);have hcl:(List.take (sb.length-tl) sb).length=sb.length-tl:=by rw [Ak];omega
     have hdl:(List.drop (sb.length-tl) sb).length=tl:=by rw [Aj];omega
     have htk:(List.take tl mk).length=tl:=by rw [Ak];omega
     have hst:List.take sb.length sb=sb:=AL;have hme:=z9u (List.take tl mk) (List.drop (sb.length-tl) sb) (by omega) (by omega);generalize hci:List.take (sb.length-tl) sb=ci at*;generalize htg:List.drop (sb.length-tl) sb=tg at*;generalize hmt:List.take tl mk=mt at*;rcases hcase with ⟨g1,g2,g3⟩ | ⟨g1,g2,g3⟩ | ⟨g1,g2,g3⟩;all_goals
      refine q0n rfl (by split<;>rfl) ?_;refine rQ fi92 ?_;refine q0a hu ?_;refine uQ 600 _ ?_;simp (maxSteps:=3000000) only [f1,g1,g2,g3,n0,hw,hw2,n1,n2,Az,hst,hci,htg,go_sem,↓zA,↓reduceIte,↓reduceDIte] <;>try simp only [zB]
      refine ⟨⟨by omega,Af _,by omega⟩,⟨by omega,by omega,Af _⟩,?_⟩;refine cQ (z1D (sp,v,b) u hb2) ?_;refine cR (q5d (sp,v,b) u 85 hb2 hb1 (by decide)) ?_;refine q0c hmk ?_;refine gy2 Az hmt ?_;refine ⟨⟨by omega,Af _,hml⟩,?_⟩;refine q0c hme ?_;by_cases c3:mt=tg
      . rw [if_pos c3];refine gy1 c3 ?_;refine cR (q5d (sp,v,b) u 170 hb2 hb1 (by decide)) ?_;refine cR hde ?_;trivial
      rw [if_neg c3];refine gy1 c3 ?_;trivial
   rw [if_neg (fun h=>hsv h.2)];have g1:(sv=v)=False:=eq_false fun h=>hsv (.inl h);have g2:(sv=0)=False:=eq_false fun h=>hsv (.inr (.inl h));have g3:(v=0)=False:=eq_false fun h=>hsv (.inr (.inr h));refine q0n rfl rfl ?_;refine rQ fi92 ?_;refine cy4 hu f1 g1 g2 g3 ?_;trivial
 have f1:(sp=p)=False:=eq_false hsp;rw [if_neg (fun h=>hsp h.1)];refine q0n rfl rfl ?_;refine rQ fi92 ?_;refine cy1 hu f1 ?_;trivial
theorem z9Y(v:Int)(b:List UInt8)(u:Nat)(conf plain:List UInt8)(ho:KeyT.ok (1,v,b))(hok:uOk (1,v,b) u=true)(hc:conf.length=16)(hpl:plain.length<=65536):PC Tryz.prog 90 [.agg (KeyT.cells (1,v,b)),rI u,.isl .u8 conf,.isl .u8 plain] (.tup [.agg [rI 1,rI v,.isl .u8 (seS (1,v,b) u conf plain)],rI 0]):=by have hu:=z4d (1,v,b) u ho;have hd1:=z0h (1,v,b) u 170;have hd2:=z0h (1,v,b) u 85;obtain ⟨hv,hu',hbl,hb32,hb1,hb2⟩:=q7n hok;rw [if_pos hok,if_pos hok] at hu;have hp:((1,v,b):Key).1=1:=rfl;have hse:seS (1,v,b) u conf plain=ciS (1,v,b) u conf plain++tg9S (1,v,b) u (ciS (1,v,b) u conf plain):=rfl;have hcil:=z8a (1,v,b) u conf plain hc;rw [hse];have hcd:ciS (1,v,b) u conf plain=ctsE (dkS (1,v,b) u 170) z16 (conf++plain):=if_pos hp;have htd:tg9S (1,v,b) u (ciS (1,v,b) u conf plain)=(hmS (dkS (1,v,b) u 85) (z16++ciS (1,v,b) u conf plain)).take 16:=if_pos hp;have hen:=z8l (dkS (1,v,b) u 170) conf plain (by rw [hd1,hb1 hp]) hc hpl;have hmk:=z0A (dkS (1,v,b) u 85) (ciS (1,v,b) u conf plain) (by omega) (by omega);rw [<-hcd] at hen;rw [htd];have hml:=q5Q (dkS (1,v,b) u 85) (z16++ciS (1,v,b) u conf plain);generalize hmS (dkS (1,v,b) u 85) (z16++ciS (1,v,b) u conf plain)=mk at*;generalize ciS (1,v,b) u conf plain=ci at*;dsimp only at*;exact z8D name1 16 16 206 207 208 1 v b u conf plain ci mk hu (by have:=hb1 rfl;omega) (by omega) hc hpl hen hmk (by omega) (by omega) (by omega)
theorem z3q(v:Int)(b:List UInt8)(u:Nat)(sp sv:Int)(sb:List UInt8)(ho:KeyT.ok (1,v,b))(hok:uOk (1,v,b) u=true)(hs:sb.length<=1099511627776):PC Tryz.prog 92 [.agg (KeyT.cells (1,v,b)),rI u,.agg [rI sp,rI sv,.isl .u8 sb]] (.tup [.isl .u8 (opS (1,v,b) u sp sv sb).1,rI (opS (1,v,b) u sp sv sb).2]):=by
 have hu:=z4d (1,v,b) u ho;have hd1:=z0h (1,v,b) u 170;have hd2:=z0h (1,v,b) u 85;obtain ⟨hv,hu',hbl,hb32,hb1,hb2⟩:=q7n hok;have hp:((1,v,b):Key).1=1:=rfl;unfold opS;rw [if_pos hok,if_pos hok] at hu;rw [if_pos hok];have hcl:(sb.take (sb.length-b.length)).length<=sb.length-b.length:=List.length_take_le _ _;have hcl2:16+b.length<=sb.length->(sb.take (sb.length-b.length)).length=sb.length-b.length:=fun _=>by rw [Ak];omega
 unfold tg9S unS;rw [if_pos hp,if_pos hp];have hbb:b.length=16:=hb1 hp;have hmk:=fun (h1:16+b.length<=sb.length) (h2:sb.length<=65552+b.length)=>z0A (dkS (1,v,b) u 85) (sb.take (sb.length-b.length)) (by omega) (by omega);have hde:=fun (h1:16+b.length<=sb.length) (h2:sb.length<=65552+b.length)=>z7a (dkS (1,v,b) u 170) (sb.take (sb.length-b.length)) (by rw [hd1,hbb]) (by rw [hcl2 h1];omega) (by omega);have hml:=q5Q (dkS (1,v,b) u 85) (z16++sb.take (sb.length-b.length));dsimp only at*;have hb11:1<=b.length∧b.length<=64:=by omega
 rw [hbb] at hmk hde hml⊢;refine j5A (z6r name1 16 16 206 207 208 1 v b u sp sv sb _ _ hu hb11.1 hb11.2 (by omega) hs hmk hde (by omega) (by omega)) ?_;repeat' split
 all_goals rfl
set_option maxHeartbeats 4000000
def beN(l:List UInt8):Nat:=l.foldl (fun v c=>v*256+c.toNat) 0
theorem q6H(l:List UInt8)(i:Nat)(h:i<l.length):beN (l.take (i+1))=beN (l.take i)*256+ (l.getD i 0).toNat:=by unfold beN;rw [CX,List.foldl_append,Ac h,Aa,Ac h];rfl
def q7X:∀ (l:List UInt8),beN l<256^ l.length:=by
 intro l;have:∀ (l:List UInt8) (v:Nat),l.foldl (fun v c=>v*256+c.toNat) v< (v+1)*256^ l.length:=by
  intro l;induction l with
  |nil=>intro v;simp
  |cons c l ih=>
   intro v;have h1:=ih (v*256+c.toNat);have h2:c.toNat<256:=c.toNat_lt;simp only [Bq,AK,Nat.pow_succ];refine An h1 ?_;have:(v*256+c.toNat+1)*256^ l.length<=((v+1)*256)*256^ l.length:=A4 _ (by omega)
   calc _<=_:=this
    _=_:=by rw [Nat.mul_assoc,Nat.mul_comm 256]
 have h:=this l 0;simpa [beN] using h
def q9x(v c:Nat)(hv:v<36028797018963968)(hc:c<256):IntKind.i64.wrap ((BitVec.ofInt 64 ((v*256:Nat):Int) |||BitVec.ofInt 64 ((c:Nat):Int)).toNat:Int)=((v*256+c:Nat):Int):=by
 have h1:(BitVec.ofInt 64 ((v*256:Nat):Int)).toNat=v*256:=by rw [AO,AU];exact AV (by omega)
 have h2:(BitVec.ofInt 64 ((c:Nat):Int)).toNat=c:=by rw [AO,AU];exact AV (by omega)
 have h3:v*256|||c=v*256+c:=by have:=CH (b:=c) (i:=8) hc v;rw [C6] at this;exact this.symm
 rw [Cq,h1,h2,h3];exact wrapi (by omega)
theorem z4S(b:List UInt8)(hb:b.length<=7):PC Tryz.prog 145 [.isl .u8 b] (rI (beN b)):=by
 refine q0q rfl rfl ?_;refine rQ fi145 ?_;refine q1u (fun i=>[(2,rI (beN (b.take i))),(7,.raw (.int .i64 ((i:Nat):Int)))]) (b.length) (fun j=>(fun _=>true) j=true) (by first|decide|simp) (fun i=>rfl) ?_ fun i hi hall=> ?_
 . (with_reducible refine sxE ?_<;>try exact True.intro)
   all_goals (try rfl)
 have hwr:=wsx i (by omega);refine gQ ?_;have bad:i< (b.length)->(fun _=>true) i=false->allN (b.length) (fun _=>true)=false:=fun hlt hv=>q0v hlt hv;have fin:¬i< (b.length)->allN (b.length) (fun _=>true)=true:=fun h=>q0C fun j hj=>hall j (by omega);try dsimp only at bad fin hall
 refine ⟨fun hlt=>⟨⟨by omega,hlt⟩,?_⟩,fun hge=> ?_⟩
 . have hv:=q7X (b.take i);have hv2:256^ (b.take i).length<=256^ 6:=BA (by decide) (by simp;omega);have hc:(b.getD i Ty.u8.dflt).toNat<256:=Cf _;have e1:IntKind.i64.wrap ((beN (b.take i):Int)*2^ min 8 64)=((beN (b.take i)*256:Nat):Int):=by rw [show ((beN (b.take i):Int)*2^ min 8 64)=((beN (b.take i)*256:Nat):Int) by simp];exact wrapi (by omega)
   have e2:IntKind.i64.wrap ((b.getD i Ty.u8.dflt).toNat:Int)=(((b.getD i Ty.u8.dflt).toNat:Nat):Int):=wrapi (by omega);have e3:=q9x (beN (b.take i)) (b.getD i Ty.u8.dflt).toNat (by omega) hc;have e4:=q6H b i hlt;rw [e1,e2];refine ⟨hlt,trivial,⟨[],rfl⟩,?_⟩;with_reducible refine sx1 hwr ?_
   rw [e4];exact congrArg (Value.int .i64) e3
 obtain rfl:i=b.length:=by omega
 rw [AL]
def minLen:Nat->Nat
 |1=>128|2=>256|3=>65536|_=>0
def measE(b:List UInt8)(at_ n:Nat):Nat×Nat×Nat:=if b.length-at_<n then (0,0,4) else (at_,at_+n,0)
def meas(b:List UInt8):Nat×Nat×Nat:=
 if b.length<2 then (0,0,4) else
 if (b.getD 1 0).toNat<128 then measE b 2 (b.getD 1 0).toNat else
 if (b.getD 1 0).toNat-128<1∨3< (b.getD 1 0).toNat-128 then (0,0,6) else
 if b.length<2+ ((b.getD 1 0).toNat-128) then (0,0,4) else
 if beN ((b.drop 2).take ((b.getD 1 0).toNat-128)) <minLen ((b.getD 1 0).toNat-128) then (0,0,6) else
 measE b (2+ ((b.getD 1 0).toNat-128)) (beN ((b.drop 2).take ((b.getD 1 0).toNat-128)))
def measV(m:Nat×Nat×Nat):SV:=.tup [rI m.1,rI m.2.1,rI m.2.2]
theorem z7s(b:List UInt8)(hb:b.length<=1099511627776):PC Tryz.prog 213 [.isl .u8 b] (measV (meas b)):=by
 refine q0q rfl rfl ?_;have hx:(b.getD 1 Ty.u8.dflt).toNat<256:=Cf _;have e0:IntKind.i64.wrap ((b.getD 1 Ty.u8.dflt).toNat:Int)=(((b.getD 1 Ty.u8.dflt).toNat:Nat):Int):=wrapi (by omega);have e1:IntKind.i64.wrap (((b.getD 1 Ty.u8.dflt).toNat:Int) -128)=((b.getD 1 Ty.u8.dflt).toNat:Int) -128:=wrapi (by omega);have e2:IntKind.i64.wrap (2+ (((b.getD 1 Ty.u8.dflt).toNat:Int) -128))=2+ (((b.getD 1 Ty.u8.dflt).toNat:Int) -128):=wrapi (by omega);have e3:IntKind.i64.wrap ((b.length:Int) -2)=(b.length:Int) -2:=wrapi (by omega);have e4:IntKind.i64.wrap (2+ ((b.getD 1 Ty.u8.dflt).toNat:Int))=2+ ((b.getD 1 Ty.u8.dflt).toNat:Int):=wrapi (by omega);have hm:∀r,meas b=r->measV (meas b)=measV r:=fun r h=>by rw [h]
 unfold measV;refine ry5 fi213 e0 e1 e2 e3 e4 ?_;have hd:b.getD 1 0=b.getD 1 Ty.u8.dflt:=rfl;generalize hxx:b.getD 1 Ty.u8.dflt=x at*;refine ⟨fun h=> ?_,fun h=>⟨by omega,fun h2=>⟨fun h3=>⟨fun h4=> ?_,fun h4=>⟨fun h5=> ?_,fun h5=>⟨⟨by omega,by omega,by omega⟩,?_⟩⟩⟩,fun h3=> ?_⟩,fun h2=>⟨fun h3=> ?_,fun h3=> ?_⟩⟩⟩
 . have:meas b=(0,0,4):=by unfold meas;rw [if_pos (by omega)]
   rw [this];rfl
 . have:meas b=(0,0,6):=by unfold meas;rw [hd,if_neg (by omega),if_neg (by omega),if_pos (by omega)]
   rw [this];rfl
 . have:meas b=(0,0,4):=by unfold meas;rw [hd,if_neg (by omega),if_neg (by omega),if_neg (by omega),if_pos (by omega)]
   rw [this];rfl
 . obtain ⟨m,hxm⟩:∃m:Nat,(x.toNat:Int) -128=(m:Int):=⟨x.toNat-128,by omega⟩
   have hm3:1<=m∧m<=3:=by omega
   have ht2:((2:Int)+ (m:Int)).toNat=2+m:=by omega
   have hll:(List.drop 2 (List.take (2+m) b)).length=m:=by simp;omega
   rw [hxm,ht2,hll];generalize hL:List.drop 2 (List.take (2+m) b)=L at*;have hmq:∀v,beN L=v->meas b=(if v<minLen m then (0,0,6) else measE b (2+m) v):=fun v hv=>by
    have hLx:(b.drop 2).take m=L:=by rw [<-hL,BH];congr 1;omega
    unfold meas;rw [hd,show x.toNat-128=m by omega,if_neg (by omega),if_neg (by omega),if_neg (by omega),if_neg (by omega),hLx,hv]
   rcases (by omega:m=1∨m=2∨m=3) with rfl|rfl|rfl
   . refine q1u (fun i=>[(5,rI (beN (L.take i))),(39,.raw (.int .i64 ((i:Nat):Int)))]) (1) (fun j=>(fun _=>true) j=true) (by first|decide|simp) (fun i=>rfl) ?_ fun i hi hall=> ?_
     . (with_reducible refine sxE ?_<;>try exact True.intro)
       all_goals (try rfl)
     have hwr:=wsx i (by omega);refine gQ ?_;have bad:i< (1)->(fun _=>true) i=false->allN (1) (fun _=>true)=false:=fun hlt hv=>q0v hlt hv;have fin:¬i< (1)->allN (1) (fun _=>true)=true:=fun h=>q0C fun j hj=>hall j (by omega);try dsimp only at bad fin hall
     refine ⟨fun hlt=>⟨⟨by omega,by omega⟩,?_⟩,fun hge=> ?_⟩
     . have hv:=q7X (L.take i);have hv2:256^ (L.take i).length<=256^ 6:=BA (by decide) (by simp;omega);have hc:(L.getD i Ty.u8.dflt).toNat<256:=Cf _;have e1:IntKind.i64.wrap ((beN (L.take i):Int)*2^ min 8 64)=((beN (L.take i)*256:Nat):Int):=by rw [show ((beN (L.take i):Int)*2^ min 8 64)=((beN (L.take i)*256:Nat):Int) by simp];exact wrapi (by omega)
       have e2:IntKind.i64.wrap ((L.getD i Ty.u8.dflt).toNat:Int)=(((L.getD i Ty.u8.dflt).toNat:Nat):Int):=wrapi (by omega);have e3:=q9x (beN (L.take i)) (L.getD i Ty.u8.dflt).toNat (by omega) hc;have e4:=q6H L i (by omega);rw [e1,e2];refine ⟨hlt,trivial,⟨[],rfl⟩,?_⟩;with_reducible refine sx1 hwr ?_
       rw [e4];exact congrArg (Value.int .i64) e3
     rw [Ad (by omega:L.length<=i)];have hv:=q7X L;rw [hll] at hv;have hv3:beN L<16777216:=by omega
     have w1:IntKind.i64.wrap ((b.length:Int) - (2+ ((1:Nat):Int)))=(b.length:Int) - (2+ ((1:Nat):Int)):=wrapi (by omega);have w2:IntKind.i64.wrap (2+ ((1:Nat):Int)+ (beN L:Int))=((2+1+beN L:Nat):Int):=by rw [wrapi (by omega)];omega
     rw [w1,w2];refine ⟨by decide,fun q=> ?_,fun q=>⟨fun q2=> ?_,fun q2=> ?_⟩⟩
     . rw [hmq _ rfl,if_pos (by simp only [minLen];omega)];rfl
     . rw [hmq _ rfl,if_neg (by simp only [minLen];omega)];unfold measE;rw [if_pos (by omega)];rfl
     rw [hmq _ rfl,if_neg (by simp only [minLen];omega)];unfold measE;rw [if_neg (by omega)];rfl
   . refine q1u (fun i=>[(5,rI (beN (L.take i))),(39,.raw (.int .i64 ((i:Nat):Int)))]) (2) (fun j=>(fun _=>true) j=true) (by first|decide|simp) (fun i=>rfl) ?_ fun i hi hall=> ?_
     . (with_reducible refine sxE ?_<;>try exact True.intro)
       all_goals (try rfl)
     have hwr:=wsx i (by omega);refine gQ ?_;have bad:i< (2)->(fun _=>true) i=false->allN (2) (fun _=>true)=false:=fun hlt hv=>q0v hlt hv;have fin:¬i< (2)->allN (2) (fun _=>true)=true:=fun h=>q0C fun j hj=>hall j (by omega);try dsimp only at bad fin hall
     refine ⟨fun hlt=>⟨⟨by omega,by omega⟩,?_⟩,fun hge=> ?_⟩
     . have hv:=q7X (L.take i);have hv2:256^ (L.take i).length<=256^ 6:=BA (by decide) (by simp;omega);have hc:(L.getD i Ty.u8.dflt).toNat<256:=Cf _;have e1:IntKind.i64.wrap ((beN (L.take i):Int)*2^ min 8 64)=((beN (L.take i)*256:Nat):Int):=by rw [show ((beN (L.take i):Int)*2^ min 8 64)=((beN (L.take i)*256:Nat):Int) by simp];exact wrapi (by omega)
       have e2:IntKind.i64.wrap ((L.getD i Ty.u8.dflt).toNat:Int)=(((L.getD i Ty.u8.dflt).toNat:Nat):Int):=wrapi (by omega);have e3:=q9x (beN (L.take i)) (L.getD i Ty.u8.dflt).toNat (by omega) hc;have e4:=q6H L i (by omega);rw [e1,e2];refine ⟨hlt,trivial,⟨[],rfl⟩,?_⟩;with_reducible refine sx1 hwr ?_
       rw [e4];exact congrArg (Value.int .i64) e3
     rw [Ad (by omega:L.length<=i)];have hv:=q7X L;rw [hll] at hv;have hv3:beN L<16777216:=by omega
     have w1:IntKind.i64.wrap ((b.length:Int) - (2+ ((2:Nat):Int)))=(b.length:Int) - (2+ ((2:Nat):Int)):=wrapi (by omega);have w2:IntKind.i64.wrap (2+ ((2:Nat):Int)+ (beN L:Int))=((2+2+beN L:Nat):Int):=by rw [wrapi (by omega)];omega
     rw [w1,w2];refine ⟨by decide,fun q=> ?_,fun q=>⟨fun q2=> ?_,fun q2=> ?_⟩⟩
     . rw [hmq _ rfl,if_pos (by simp only [minLen];omega)];rfl
     . rw [hmq _ rfl,if_neg (by simp only [minLen];omega)];unfold measE;rw [if_pos (by omega)];rfl
     rw [hmq _ rfl,if_neg (by simp only [minLen];omega)];unfold measE;rw [if_neg (by omega)];rfl
   refine q1u (fun i=>[(5,rI (beN (L.take i))),(39,.raw (.int .i64 ((i:Nat):Int)))]) (3) (fun j=>(fun _=>true) j=true) (by first|decide|simp) (fun i=>rfl) ?_ fun i hi hall=> ?_
   . (with_reducible refine sxE ?_<;>try exact True.intro)
     all_goals (try rfl)
   have hwr:=wsx i (by omega);refine gQ ?_;have bad:i< (3)->(fun _=>true) i=false->allN (3) (fun _=>true)=false:=fun hlt hv=>q0v hlt hv;have fin:¬i< (3)->allN (3) (fun _=>true)=true:=fun h=>q0C fun j hj=>hall j (by omega);try dsimp only at bad fin hall
   refine ⟨fun hlt=>⟨⟨by omega,by omega⟩,?_⟩,fun hge=> ?_⟩
   . have hv:=q7X (L.take i);have hv2:256^ (L.take i).length<=256^ 6:=BA (by decide) (by simp;omega);have hc:(L.getD i Ty.u8.dflt).toNat<256:=Cf _;have e1:IntKind.i64.wrap ((beN (L.take i):Int)*2^ min 8 64)=((beN (L.take i)*256:Nat):Int):=by rw [show ((beN (L.take i):Int)*2^ min 8 64)=((beN (L.take i)*256:Nat):Int) by simp];exact wrapi (by omega)
     have e2:IntKind.i64.wrap ((L.getD i Ty.u8.dflt).toNat:Int)=(((L.getD i Ty.u8.dflt).toNat:Nat):Int):=wrapi (by omega);have e3:=q9x (beN (L.take i)) (L.getD i Ty.u8.dflt).toNat (by omega) hc;have e4:=q6H L i (by omega);rw [e1,e2];refine ⟨hlt,trivial,⟨[],rfl⟩,?_⟩;with_reducible refine sx1 hwr ?_
     rw [e4];exact congrArg (Value.int .i64) e3
   rw [Ad (by omega:L.length<=i)];have hv:=q7X L;rw [hll] at hv;have hv3:beN L<16777216:=by omega
   have w1:IntKind.i64.wrap ((b.length:Int) - (2+ ((3:Nat):Int)))=(b.length:Int) - (2+ ((3:Nat):Int)):=wrapi (by omega);have w2:IntKind.i64.wrap (2+ ((3:Nat):Int)+ (beN L:Int))=((2+3+beN L:Nat):Int):=by rw [wrapi (by omega)];omega
   rw [w1,w2];refine ⟨by decide,fun q=> ?_,fun q=>⟨fun q2=> ?_,fun q2=> ?_⟩⟩
   . rw [hmq _ rfl,if_pos (by simp only [minLen];omega)];rfl
   . rw [hmq _ rfl,if_neg (by simp only [minLen];omega)];unfold measE;rw [if_pos (by omega)];rfl
   rw [hmq _ rfl,if_neg (by simp only [minLen];omega)];unfold measE;rw [if_neg (by omega)];rfl
 . have:meas b=(0,0,6):=by unfold meas;rw [hd,if_neg (by omega),if_neg (by omega),if_pos (by omega)]
   rw [this];rfl
 . have:meas b=(0,0,4):=by unfold meas;rw [hd,if_neg (by omega),if_pos (by omega)];unfold measE;rw [if_pos (by omega)]
   rw [this];rfl
 have:meas b=(2,2+x.toNat,0):=by unfold meas;rw [hd,if_neg (by omega),if_pos (by omega)];unfold measE;rw [if_neg (by omega)]
 rw [this];rfl
def byteOf(x:Int):UInt8:=UInt8.ofNat (IntKind.u8.wrap x).toNat
def u8wrap(x:Int):0<=IntKind.u8.wrap x∧IntKind.u8.wrap x<256:=by
 have h:IntKind.u8.wrap x=x%256:=by simp [IntKind.wrap,IntKind.bits,IntKind.signed]
 rw [h];omega
def q5N(x:Int):((UInt8.ofNat (IntKind.u8.wrap x).toNat).toNat:Int)=IntKind.u8.wrap x:=by have:=u8wrap x;rw [A8];omega
def j1H(c:UInt8):((UInt8.ofNat c.toNat).toNat:Int)=c.toNat:=by simp
def lenS(n:Nat):List UInt8:=
 if n<128 then [byteOf n] else if n<256 then [129,byteOf n] else if n<65536 then [130,byteOf ((n:Int).fdiv 256),byteOf n] else [131,byteOf ((n:Int).fdiv 65536),byteOf ((n:Int).fdiv 256),byteOf n]
def tlv(tag:UInt8)(c:List UInt8):List UInt8:=tag :: (lenS c.length++c)
def elemS(tag:UInt8)(parts:List (List UInt8)):List UInt8:=if parts.flatten.length<=16777215 then tlv tag parts.flatten else []
def flatN(parts:List (List UInt8))(i:Nat):List UInt8:=(parts.take i).flatten
variable {i:Nat}
def q5J{parts:List (List UInt8)}(h:i<parts.length):flatN parts (i+1)=flatN parts i++parts.getD i (Ty.slice .u8).dflt:=by unfold flatN;rw [q2a (d:=(Ty.slice .u8).dflt) h];simp
def z0X(parts:List (List UInt8)):flatN parts parts.length=parts.flatten:=by unfold flatN;rw [AL]
def z0j(parts:List (List UInt8))(i:Nat):(flatN parts i).length<=parts.flatten.length:=by unfold flatN;have:=congrArg List.flatten (AJ i parts);rw [BQ] at this;rw [<-this];simp
def fitAt(parts:List (List UInt8))(j:Nat):Bool:=decide ((flatN parts (j+1)).length<=16777215)

theorem z8V(tag:UInt8)(parts:List (List UInt8))(hp:parts.length<=1125899906842624):PC Tryz.prog 110 [.raw (.int .u8 tag.toNat),.isl (.slice .u8) parts] (.isl .u8 (elemS tag parts)):=by
 refine q0n rfl rfl ?_;refine rQ fi110 ?_;refine q1u (fun i=>[(5,rI ((flatN parts i).length)),(13,.raw (.int .i64 ((i:Nat):Int)))]) (parts.length) (fun j=>(fitAt parts) j=true) (by first|decide|simp) (fun i=>rfl) ?_ fun i hi hall=> ?_
 . (with_reducible refine sxE ?_<;>try exact True.intro)
   all_goals (try rfl)
 have hwr:=wsx i (by omega);refine gQ ?_;have bad:i< (parts.length)->(fitAt parts) i=false->allN (parts.length) (fitAt parts)=false:=fun hlt hv=>q0v hlt hv;have fin:¬i< (parts.length)->allN (parts.length) (fitAt parts)=true:=fun h=>q0C fun j hj=>hall j (by omega);try dsimp only at bad fin hall
 have hn:(flatN parts i).length<=16777215:=by
  cases i with
  |zero=>simp [flatN]
  |succ j=>have:=hall j (by omega);simpa [fitAt] using this
 rw [wrapi (n:=16777215- ((flatN parts i).length:Int)) (by omega),wrapi (n:=((flatN parts i).length:Int)+5) (by omega)];refine ⟨fun hlt=>⟨⟨by omega,hlt⟩,fun hbig=> ?_,fun hfit=> ?_⟩,fun hge=> ?_⟩
 . have h1:=z0j parts (i+1);rw [q5J hlt,Ab] at h1;unfold elemS;rw [if_neg (by omega)]
 . have h2:((flatN parts i).length:Int)+ ((parts.getD i (Ty.slice .u8).dflt).length:Int)=((flatN parts (i+1)).length:Int):=by rw [q5J hlt,Ab];rfl
   have h3:(flatN parts (i+1)).length<=16777215:=by omega
   refine ⟨hlt,q1i hall (by simpa [fitAt] using h3),⟨_,rfl⟩,?_⟩;rw [h2,wrapi (n:=((flatN parts (i+1)).length:Int)) (by omega)];with_reducible refine sx1 hwr ?_;trivial
 obtain rfl:i=parts.length:=by omega
 rw [z0X] at*;have he:elemS tag parts=tag :: (lenS parts.flatten.length++flatN parts parts.length):=by unfold elemS tlv;rw [if_pos hn,z0X]
 refine ⟨⟨by omega,by omega,by omega⟩,j1H tag,fun h1=>⟨q5N _,?_⟩,fun h1=>⟨fun h2=>⟨?_,?_⟩,fun h2=>⟨fun h3=>⟨?_,?_⟩,fun h3=>⟨?_,?_⟩⟩⟩⟩;any_goals (repeat' (first|exact q5N _|exact rfl|with_reducible refine And.intro ?_ ?_))
 have hL:lenS parts.flatten.length= [byteOf parts.flatten.length]:=by unfold lenS;rw [if_pos (by omega)]
 rotate_left;have hL:lenS parts.flatten.length= [129,byteOf parts.flatten.length]:=by unfold lenS;rw [if_neg (by omega),if_pos (by omega)]
 rotate_left;have hL:lenS parts.flatten.length= [130,byteOf ((parts.flatten.length:Int).fdiv 256),byteOf parts.flatten.length]:=by unfold lenS;rw [if_neg (by omega),if_neg (by omega),if_pos (by omega)]
 rotate_left;have hL:lenS parts.flatten.length= [131,byteOf ((parts.flatten.length:Int).fdiv 65536),byteOf ((parts.flatten.length:Int).fdiv 256),byteOf parts.flatten.length]:=by unfold lenS;rw [if_neg (by omega),if_neg (by omega),if_neg (by omega)]
 rotate_left;all_goals
  refine j3p (H:=[_,_,_,_]) 8 .u8 (fun i=>tag :: (lenS parts.flatten.length++flatN parts i)) (fun i=>[(44,.any),(52,.any),(60,.any),(71,.any),(74,rI i)]) parts.length (fun _=>True) (by rw [hL];simp [flatN,byteOf]) (by simp) rfl (fun i=>rfl) ?_ fun i hi _=> ?_
  . with_reducible refine sx1 hL ?_
    simp [flatN]
  have hwr:=wsx i (by omega);have hfl:=z0j parts i;have hll:(lenS parts.flatten.length).length<=4:=by rw [hL];simp
  refine gQ ?_;have e1:(lenS parts.flatten.length++flatN parts i).length=(lenS parts.flatten.length).length+ (flatN parts i).length:=Ab;refine ⟨fun hlt=> ?_,fun hge=> ?_⟩
  . have h4:=z0j parts (i+1);have h5:=q5J hlt;rw [h5,Ab] at h4;refine ⟨⟨by omega,hlt⟩,⟨by omega,by omega⟩,q3j [.dead] [] hlt trivial (by rw [h5,<-List.append_assoc];rfl) ?_⟩;with_reducible refine sx3 hwr h5 ?_
    exact congrArg (SV.bld 5 .u8) (by omega)
  obtain rfl:i=parts.length:=by omega
  rw [Ad (Af _)];exact ⟨⟨Af _,by omega⟩,he.symm⟩
def byteAt(v:Int)(k:Nat):UInt8:=byteOf (v.fdiv (2^ min (8*k) 64))
def numN(v:Int)(size i:Nat):List UInt8:=(List.range size).map fun j=>if size-1-j<i then byteAt v (size-1-j) else 0
def numS(v:Int)(size:Nat):List UInt8:=(List.range size).map fun j=>byteAt v (size-1-j)
def z6S(v:Int)(size:Nat):List.replicate size (0:UInt8)=numN v size 0:=by
 apply Aw
 . simp [numN]
 intro j h1 h2;simp [numN]
def z9W(v:Int)(size:Nat):numN v size size=numS v size:=by
 apply Aw
 . simp [numN,numS]
 intro j h1 h2;simp [numN,numS];simp [numN] at h1;intro h;omega
theorem j1y{v:Int}{size:Nat}(h:i<size):(numN v size i).set (size-1-i) (byteAt v i)=numN v size (i+1):=by
 apply Aw
 . simp [numN]
 intro j h1 h2;simp [numN] at h2;simp only [numN,Bn,AG,Ay];split
 . rename_i e;have:size-1-j=i:=by omega
   rw [this,if_pos (by omega)]
 rename_i e;by_cases h3:size-1-j<i
 . rw [if_pos h3,if_pos (by omega)]
 rw [if_neg h3,if_neg (by omega)]
def z3W(v:Int)(size:Nat)(hs:size<=64):PC Tryz.prog 114 [rI v,rI size] (.isl .u8 (numS v size)):=by
 refine q0n rfl rfl ?_;refine rQ fi114 ?_;refine ⟨by omega,?_⟩;refine q0k (ι:=Nat) (fun i=>[(11,rI i)]) (fun i=>[.row .u8 (numN v size i)]) (fun i=>size-i) (fun i=>i<=size) 0 (Al _) (by rw [<-z6S];rfl) ?_ ?_
 . with_reducible refine sxE ?_;trivial
 intro i hi;have w3:IntKind.i64.wrap (8* (i:Int))=((8*i:Nat):Int):=by rw [wrapi (by omega)];rfl
 have hwr:=wsx i (by omega);have hln:(numN v size i).length=size:=by simp [numN]
 by_cases hlt:i<size
 . have w1:IntKind.i64.wrap ((size:Int) -1)=((size-1:Nat):Int):=by rw [wrapi (by omega)];omega
   have w2:IntKind.i64.wrap (((size-1:Nat):Int) - (i:Int))=((size-1-i:Nat):Int):=by rw [wrapi (by omega)];omega
   refine gy4 w1 w2 w3 hln ?_;refine ⟨fun _=>⟨by omega,⟨by omega,by omega⟩,⟨by omega,q5N _⟩,i+1,hlt,by dsimp only;omega,?_,?_⟩,fun h=>absurd hlt h⟩
   . dsimp only;rw [<-j1y hlt,Nat.zero_add];rfl
   with_reducible refine sx1 hwr ?_;trivial
 refine uQ 600 _ ?_;with_reducible refine sx1 hln ?_
 refine ⟨fun h=>absurd h hlt,fun _=>⟨⟨by omega,by omega⟩,?_⟩⟩;obtain rfl:i=size:=by omega
 rw [z9W,Ad (by simp [numS])]
def q2v(tag:UInt8)(n:Int)(hn:n=tag.toNat)(parts:List (List UInt8))(hp:parts.length<=1125899906842624):PC Tryz.prog 110 [.raw (.int .u8 n),.isl (.slice .u8) parts] (.isl .u8 (elemS tag parts)):=by subst hn;exact z8V tag parts hp

def restN(v:Int):Nat->Int
 |0=>v
 |k+1=>(restN v k).fdiv 256
def firstN(n:Nat)(q:Nat->Bool):Option Nat:=(List.range n).find? q
variable {q:Nat->Bool}
theorem z2V{n:Nat}(hi:i<n)(hq:q i=true)(hn:∀j,j<i->q j=false):firstN n q=some i:=by unfold firstN;rw [List.find?_range_eq_some];exact ⟨hq,by simpa using hi,fun j hj=>by rw [hn j hj];rfl⟩
def z2S{n:Nat}(h:firstN n q=some i):i<n∧q i=true∧∀j,j<i->q j=false:=by unfold firstN at h;rw [List.find?_range_eq_some] at h;exact ⟨by simpa using h.2.1,h.1,fun j hj=>by simpa using h.2.2 j hj⟩
def oneB(v:Int)(k:Nat):Bool:=decide (-128<=restN v k) && decide (restN v k<=127)
def intSz(v:Int):Nat:=1+ (firstN 9 (oneB v)).getD 0
def intS(v:Int):List UInt8:=if -4611686018427387904<=v∧v<=4611686018427387904 then elemS 2 [numS v (intSz v)] else []
def fdiv256(r:Int):r.fdiv 256=r / 256:=Be r (by decide)
def rest8{v:Int}(h1: -4611686018427387904<=v)(h2:v<=4611686018427387904):oneB v 8=true:=by simp only [oneB,restN,fdiv256,Am,decide_eq_true_eq];omega
theorem q2E(v:Int):PC Tryz.prog 39 [rI v] (.isl .u8 (intS v)):=by
 refine q0n rfl rfl ?_;refine rQ fi39 ?_<;>try with_reducible exact True.intro
 repeat' (first
  | (with_reducible refine And.intro ?_ ?_)
  | (with_reducible intro _))
 all_goals (skip)
 . unfold intS;rw [if_neg (by omega)]
 rotate_left
 . unfold intS;rw [if_neg (by omega)]
 rename_i h1 h2;have h8:=rest8 (v:=v) (by omega) (by omega);refine q0k (ι:=Nat) (fun k=>[(3,rI ((1+k:Nat):Int)),(4,rI (restN v k))]) (fun _=>[]) (fun k=>9-k) (fun k=>k<=8∧∀j,j<k->oneB v j=false) 0 ⟨by omega,fun j hj=>absurd hj (by omega)⟩ rfl ?_ ?_
 . simp (maxSteps:=3000000) only [restN,go_sem,↓zA,↓reduceIte,↓reduceDIte] <;>try simp only [zB]
   rfl
 rintro k ⟨hk,hall⟩;have hwr:IntKind.i64.wrap (((1+k:Nat):Int)+1)=((1+ (k+1):Nat):Int):=by rw [wrapi (by omega)];omega
 refine gy1 hwr ?_;have hp:(2:Int) ^ min 8 64=256:=by decide
 refine ⟨fun h3=>⟨fun h4=> ?_,fun h4=> ?_⟩,fun h3=> ?_⟩
 . have ho:oneB v k=false:=by simp [oneB];omega
   have hk8:k≠8:=fun e=>by subst e;rw [h8] at ho;cases ho
   refine ⟨k+1,⟨by omega,q1i hall ho⟩,by dsimp only;omega,rfl,?_⟩;simp (maxSteps:=3000000) only [restN,hp,go_sem,↓zA,↓reduceIte,↓reduceDIte] <;>try simp only [zB]
 . have ho:oneB v k=true:=by simp [oneB];omega
   have hz:intSz v=1+k:=by unfold intSz;rw [z2V (by omega) ho hall];rfl
   refine cQ (z3W v (1+k) (by omega)) ?_;refine q0z 0 ?_;with_reducible refine sxE ?_
   refine cQ (q2v 2 2 rfl _ (by simp)) ?_;unfold intS;rw [if_pos (by omega),hz]
 have ho:oneB v k=false:=by simp [oneB];omega
 have hk8:k≠8:=fun e=>by subst e;rw [h8] at ho;cases ho
 refine ⟨k+1,⟨by omega,q1i hall ho⟩,by dsimp only;omega,rfl,?_⟩;simp (maxSteps:=3000000) only [restN,hp,go_sem,↓zA,↓reduceIte,↓reduceDIte] <;>try simp only [zB]
theorem z0e(b:List UInt8):PC Tryz.prog 34 [.isl .u8 b] (.isl .u8 (elemS 4 [b])):=by
 refine q0n rfl rfl ?_;refine rQ fi34 ?_;refine q0z 0 ?_;with_reducible refine sxE ?_
 refine cQ (q2v 4 4 rfl _ (by simp)) ?_;trivial
def timeS(t:Int):List UInt8:=if 0<=t∧t<=1099511627776 then elemS 24 [numS t 6] else []
def j6y(t:Int):PC Tryz.prog 40 [rI t] (.isl .u8 (timeS t)):=by
 refine q0n rfl rfl ?_;refine rQ fi40 ?_;refine ⟨fun h1=>⟨fun h2=> ?_,fun h2=> ?_⟩,fun h1=> ?_⟩
 . unfold timeS;rw [if_neg (by omega)]
 . refine q0a (z3W t 6 (by omega)) ?_;refine gQ ?_;refine q0z 0 ?_;with_reducible refine sxE ?_
   refine cQ (q2v 24 24 rfl _ (by simp)) ?_;unfold timeS;rw [if_pos (by omega)]
 unfold timeS;rw [if_neg (by omega)]
theorem q4g(l:List (List UInt8))(hl:l.length<=1125899906842624):PC Tryz.prog 42 [.isl (.slice .u8) l] (.isl .u8 (elemS 48 l)):=by refine q0n rfl rfl ?_;refine rQ fi42 ?_;refine cQ (q2v 48 48 rfl _ hl) ?_;trivial
def wrapS(tag n:Int)(b:List UInt8):List UInt8:=if 0<=n∧n<=30∧b≠ [] then elemS (byteOf (tag+n)) [b] else []
def z1B(tag n:Int)(b:List UInt8)(ht:0<=tag∧tag<=1000):PC Tryz.prog 109 [rI tag,rI n,.isl .u8 b] (.isl .u8 (wrapS tag n b)):=by
 refine q0n rfl rfl ?_;refine rQ fi109 ?_;refine ⟨fun h1=>⟨fun h2=>⟨fun h3=> ?_,fun h3=> ?_⟩,fun h2=> ?_⟩,fun h1=> ?_⟩
 . unfold wrapS;rw [if_neg (fun h=>h.2.2 (BB.1 (by omega)))]
 . refine q0z 0 ?_;with_reducible refine sxE ?_
   refine q0a (q2v (byteOf (tag+n)) _ ?_ _ (by simp)) ?_
   . rw [wrapi (by omega)];exact (q5N _).symm
   refine gQ ?_;unfold wrapS;rw [if_pos ⟨by omega,by omega,fun e=>h3 (by rw [e];rfl)⟩]
 . unfold wrapS;rw [if_neg (by omega)]
 unfold wrapS;rw [if_neg (by omega)]
def q1I(n:Int)(b:List UInt8):PC Tryz.prog 33 [rI n,.isl .u8 b] (.isl .u8 (wrapS 160 n b)):=by refine q0n rfl rfl ?_;refine rQ fi33 ?_;refine cQ (z1B 160 n b (by omega)) ?_;trivial
theorem z0P(s:ByteArray)(hs:s.size<=140737488355328):PC Tryz.prog 108 [rS s] (.isl .u8 (elemS 27 [s.data.toList])):=by
 refine q0n rfl rfl ?_;refine q1T fi108 (q0r mixed 8 _ ?_);simp (maxSteps:=3000000) only [ir108,go_sem,↓zA,↓reduceIte,↓reduceDIte] <;>try simp only [zB]
 have hl:(bytesOf s).length=s.size:=by simp [bytesOf]
 refine q1j 0 rfl rfl (by omega) ?_ ?_ ?_
 . with_reducible refine sxE ?_;trivial
 . with_reducible refine sxE ?_
   omega
 with_reducible refine sxE ?_
 refine gQ ?_;refine q0z 1 ?_;with_reducible refine sxE ?_
 rw [Ad (by omega)];refine cQ (q2v 27 27 rfl _ (by simp)) ?_;rfl
def fullAt(l:List (List UInt8))(j:Nat):Bool:=decide (l.getD j (Ty.slice .u8).dflt≠ [])
def wholeS(l:List (List UInt8)):List UInt8:=if allN l.length (fullAt l) then elemS 48 l else []
theorem z5K(l:List (List UInt8))(hl:l.length<=1125899906842624):PC Tryz.prog 113 [.isl (.slice .u8) l] (.isl .u8 (wholeS l)):=by
 refine q0n rfl rfl ?_;refine rQ fi113 ?_;refine q1u (fun i=>[(7,.raw (.int .i64 ((i:Nat):Int)))]) (l.length) (fun j=>(fullAt l) j=true) (by first|decide|simp) (fun i=>rfl) ?_ fun i hi hall=> ?_
 . (with_reducible refine sxE ?_<;>try exact True.intro)
   all_goals (try rfl)
 have hwr:=wsx i (by omega);refine gQ ?_;have bad:i< (l.length)->(fullAt l) i=false->allN (l.length) (fullAt l)=false:=fun hlt hv=>q0v hlt hv;have fin:¬i< (l.length)->allN (l.length) (fullAt l)=true:=fun h=>q0C fun j hj=>hall j (by omega);try dsimp only at bad fin hall
 refine ⟨fun hlt=>⟨⟨by omega,hlt⟩,fun h0=> ?_,fun h0=> ?_⟩,fun hge=>q0a (q4g l hl) ?_⟩
 . have:fullAt l i=false:=by simp only [fullAt,decide_eq_false_iff_not,ne_eq,Classical.not_not];exact BB.1 (by omega)
   unfold wholeS;rw [bad hlt this];rfl
 . refine ⟨hlt,q1i hall ?_,⟨_,rfl⟩,?_⟩
   . simp only [fullAt,decide_eq_true_eq];exact fun e=>h0 (by rw [e];rfl)
   with_reducible refine sx1 hwr ?_;trivial
 refine gQ ?_;unfold wholeS;rw [fin hge];rfl
def tagN(l:List (List UInt8))(i:Nat):List (List UInt8):=(List.range i).map fun (j:Nat)=>wrapS 160 j (l.getD j (Ty.slice .u8).dflt)
def z6J(l:List (List UInt8))(i:Nat):tagN l (i+1)=tagN l i++ [wrapS 160 i (l.getD i (Ty.slice .u8).dflt)]:=by simp [tagN,B6]
def fieldsS(l:List (List UInt8)):List UInt8:=wholeS (tagN l l.length)
theorem z3Z(l:List (List UInt8))(hl:l.length<=1048576):PC Tryz.prog 112 [.isl (.slice .u8) l] (.isl .u8 (fieldsS l)):=by
 refine q0n rfl rfl ?_;refine rQ fi112 ?_;refine q5X 3 (.slice .u8) (fun i=>tagN l i) (fun i=>[(8,rI i)]) l.length (fun _=>True) rfl (by simp) (by simp [tagN]) rfl (fun i=>rfl) ?_ fun i hi _=> ?_
 . with_reducible refine sxE ?_;trivial
 have hwr:=wsx i (by omega);have hln:(tagN l i).length=i:=by simp [tagN]
 have hst:=z6J l i;refine gQ ?_;refine ⟨fun hlt=>⟨⟨by omega,hlt⟩,q0a (q1I _ _) ?_⟩,fun hge=> ?_⟩
 . refine gQ ?_;refine ⟨⟨by omega,by omega⟩,q3j [_,_] [] hlt trivial (by rw [hst];rfl) ?_⟩;with_reducible refine sx3 hwr hst ?_;trivial
 obtain rfl:i=l.length:=by omega
 refine q0z 0 ?_;with_reducible refine sxE ?_
 refine ⟨by omega,?_⟩;rw [Ad (by omega)];refine ⟨Af _,q0a (z5K (tagN l l.length) (by omega)) ?_⟩;refine gQ ?_;rfl
def keyS(k:Key):List UInt8:=fieldsS [intS k.1,intS k.2.1,elemS 4 [k.2.2]]
theorem j0W(p v:Int)(b:List UInt8):PC Tryz.prog 111 [rI p,rI v,.isl .u8 b] (.isl .u8 (keyS (p,v,b))):=by
 refine q0n rfl rfl ?_;refine rQ fi111 ?_;refine cQ (q2E p) ?_;refine cQ (q2E v) ?_;refine cQ (z0e b) ?_;refine q0z 0 ?_;with_reducible refine sxE ?_
 refine cQ (z3Z _ (by simp)) ?_;rfl
def j5H(k:Key):PC Tryz.prog 36 [.agg (KeyT.cells k)] (.isl .u8 (keyS k)):=by refine q0n rfl rfl ?_;refine rQ fi36 ?_;refine cQ (j0W _ _ _) ?_;trivial
def strsN(l:List ByteArray)(i:Nat):List (List UInt8):=(l.take i).map fun s=>elemS 27 [s.data.toList]
variable {l:List ByteArray}
def z4T(h:i<l.length):strsN l (i+1)=strsN l i++ [elemS 27 [(l.getD i Ty.str.dflt).data.toList]]:=by unfold strsN;rw [q2a (d:=Ty.str.dflt) h];simp
def z8w(h:i<=l.length):(strsN l i).length=i:=by simp [strsN];omega
def prinS(p:Prin):List UInt8:=elemS 48 [wrapS 160 0 (elemS 48 (strsN p.1 p.1.length)),wrapS 160 1 (elemS 27 [p.2.data.toList])]
theorem z7E(p:Prin)(hp:PrinT.ok p):PC Tryz.prog 31 [.agg (PrinT.cells p)] (.tup [.isl .u8 (if vPrin p then prinS p else []),rI (if vPrin p then 0 else 2)]):=by
 obtain ⟨l,r⟩:=p;have hps:prinS (l,r)=elemS 48 [wrapS 160 0 (elemS 48 (strsN l l.length)),wrapS 160 1 (elemS 27 [r.data.toList])]:=rfl;have hok:∀ {i},i<l.length->(l.getD i Ty.str.dflt).size<=140737488355328:=fun h=>hp.1.2 _ (q2l h);have hr:r.size<=140737488355328:=hp.2;have hv:=q6M (l,r) hp;have hv4:vPrin (l,r)=true->l.length<=4:=fun h=>by simp [vPrin] at h;omega
 clear hp;generalize vPrin (l,r)=vb at*;generalize prinS (l,r)=ps at*;change List ByteArray at l;refine q0n rfl rfl ?_;refine rQ fi31 ?_;refine cQ hv ?_;refine ⟨fun h=> ?_,fun h=> ?_⟩
 . rw [h];exact ⟨rfl,rfl⟩
 have hl4:l.length<=4:=hv4 h;subst h;refine q5X 4 (.slice .u8) (strsN l) (fun i=>[(13,rI i)]) l.length (fun _=>True) rfl (by simp) (by simp [strsN]) rfl (fun i=>rfl) ?_ fun i hi _=> ?_
 . with_reducible refine sxE ?_;trivial
 have hwr:=wsx i (by omega);have hln:=z8w hi;by_cases hlt:i<l.length
 . refine gQ ?_;refine ⟨fun _=>⟨⟨by omega,hlt⟩,q0a (z0P _ (hok hlt)) ?_⟩,fun h=>absurd hlt h⟩;refine gQ ?_;have hst:=z4T hlt;refine ⟨⟨by omega,by omega⟩,q3j [_,_] [] hlt trivial (by rw [hst];rfl) ?_⟩;with_reducible refine sx3 hwr hst ?_;trivial
 obtain rfl:i=l.length:=by omega
 refine q1j 1 rfl rfl (by omega) ?_ ?_ ?_
 . with_reducible refine sxE ?_;trivial
 . with_reducible refine sxE ?_
   exact Af _
 with_reducible refine sxE ?_
 rw [Ad (Af _)];refine gQ ?_;refine ⟨fun h=>absurd h hlt,fun _=>q0c (q4g _ (by omega)) ?_⟩;refine gQ ?_;refine cR (q1I _ _) ?_;refine cR (z0P r hr) ?_;refine cR (q1I _ _) ?_;refine q0G 2 (by decide) ?_;with_reducible refine sxE ?_
 refine cR (q4g _ (by simp)) ?_;exact hps.symm
variable {t:Ty}
def mapN(w:t.den->List UInt8)(l:List t.den)(i:Nat):List (List UInt8):=(l.take i).map w
variable {w:t.den->List UInt8}{l:List t.den}
def z8g(h:i<l.length):mapN w l (i+1)=mapN w l i++ [w (l.getD i t.dflt)]:=by unfold mapN;rw [q2a (d:=t.dflt) h];simp
def z9L(h:i<=l.length):(mapN w l i).length=i:=by simp [mapN];omega
def takeE(tag:UInt8)(r:List UInt8):Nat:=if r.length=0 then 4 else if r.getD 0 0≠tag then 6 else (meas r).2.2
def takeC(r:List UInt8):List UInt8:=(r.take (meas r).2.1).drop (meas r).1
def takeN(r:List UInt8):Nat:=(meas r).2.1
variable {r:List UInt8}
theorem z1W(h:(meas r).2.2=0):2<=(meas r).1∧(meas r).1<=(meas r).2.1∧(meas r).2.1<=r.length:=by
 have key:∀a n,(measE r a n).2.2=0->2<=a->a<=r.length->2<=(measE r a n).1∧(measE r a n).1<=(measE r a n).2.1∧(measE r a n).2.1<=r.length:=by
  intro a n h1 h2 h3;unfold measE at h1⊢;split at h1
  . cases h1
  rename_i hh;rw [if_neg hh];simp only;omega
 unfold meas at h⊢;repeat' split at h
 all_goals first| (cases h;done) |skip
 . rename_i g1 g2;rw [if_neg g1,if_pos g2];exact key _ _ h (by omega) (by omega)
 rename_i g1 g2 g3 g4 g5;rw [if_neg g1,if_neg g2,if_neg g3,if_neg g4,if_neg g5];exact key _ _ h (by omega) (by omega)
variable {t:UInt8}
def z3c(h:takeE t r=0):(meas r).2.2=0:=by
 unfold takeE at h;split at h
 . cases h
 split at h
 . cases h
 exact h
def q3i{t:UInt8}{r:List UInt8}(h:takeE t r=0):takeN r<=r.length:=(z1W (z3c h)).2.2
def z5M(h:takeE t r=0):2<=takeN r:=by have:=z1W (z3c h);unfold takeN;omega
def q7B(r:List UInt8):(takeC r).length<=r.length:=by unfold takeC;rw [Aj,Ak];omega

abbrev PR(α:Type):=List UInt8->Except Nat (α×Nat)
variable {α:Type}
def rdP(tag:UInt8)(dec:List UInt8->Option α):PR α:=fun r=>
 if takeE tag r=0 then match dec (takeC r) with
  |some v=>.ok (v,takeN r)
  |none=>.error 6
 else .error (takeE tag r)
def allP(p:PR α)(c:List UInt8):Except Nat α:=match p c with
 |.error e=>.error e
 |.ok (v,m)=>if m<c.length then .error 6 else .ok v
def inP(tag:UInt8)(p:PR α):PR α:=fun r=>
 if takeE tag r=0 then match allP p (takeC r) with
  |.ok v=>.ok (v,takeN r)
  |.error e=>.error e
 else .error (takeE tag r)
def tagB(n:Nat):UInt8:=byteOf (160+n)
def nextB(n:Nat)(r:List UInt8):Bool:=decide (r.length≠0) && decide (r.getD 0 0=tagB n)
def mayP(n:Nat)(p:PR α):PR (Option α):=fun r=>
 if nextB n r then match inP (tagB n) p r with
  |.ok (v,k)=>.ok (some v,k)
  |.error e=>.error e
 else .ok (none,0)
def needP(n:Nat)(p:PR α):PR α:=fun r=>if nextB n r then inP (tagB n) p r else .error (if r.length=0 then 4 else 6)
def bindP{β:Type}(p:PR α)(f:α->PR β):PR β:=fun r=>match p r with
 |.error e=>.error e
 |.ok (v,k)=>match f v (r.drop k) with
  |.error e=>.error e
  |.ok (u,m)=>.ok (u,k+m)
def retP(v:α):PR α:=fun _=>.ok (v,0)
def listP{α:Type}(p:PR α):Nat->PR (List α)
 |0,r=>if r.length=0 then .ok ([],0) else .error 6
 |n+1,r=>if r.length=0 then .ok ([],0) else match p r with
  |.error e=>.error e
  |.ok (v,k)=>match listP p n (r.drop k) with
   |.error e=>.error e
   |.ok (l,m)=>.ok (v :: l,k+m)

@[go_sem] abbrev rdr(b:List UInt8)(n:Nat):SObj:=.cells 147 [.isl .u8 b,rI n,.raw (.bool true)]
def z1u(b:List UInt8)(n:Nat)(hn:n<=b.length):PE Tryz.prog 183 [.ptr 0 0] [rdr b n] (.ret (.isl .u8 (b.drop n))) [rdr b n]:=by refine q0b (Af _) ?_;refine rQ fi183 ?_;refine ⟨⟨by omega,hn,Af _⟩,?_⟩;rw [AL]
def q2F(b:List UInt8)(n:Nat)(hn:n<=b.length):PE Tryz.prog 128 [.ptr 0 0] [rdr b n] (.ret (rI ((b.length-n:Nat):Int))) [rdr b n]:=by refine q0b (Af _) ?_;refine rQ fi128 ?_;refine eQ [0] (z1u b n hn) ?_;rw [Aj]
def z8U(b:List UInt8):PE Tryz.prog 125 [.isl .u8 b] [] (.ret (.ptr 0 0)) [rdr b 0]:=by refine q0b (Al _) ?_;refine rQ fi125 ?_;trivial
def z2P(b:List UInt8):PE Tryz.prog 127 [.isl .u8 b] [] (.ret (.tup [.ptr 0 0,rB true])) [rdr b 0]:=by refine q0b (Al _) ?_;refine rQ fi127 ?_;refine eQ [] (z8U b) ?_;trivial
theorem z0S(tag:UInt8)(b:List UInt8)(n:Nat)(hn:n<=b.length)(hb:b.length<=1099511627776):
 PE Tryz.prog 182 [.ptr 0 0,.raw (.int .u8 tag.toNat)] [rdr b n] (.ret (.tup [.isl .u8 (if takeE tag (b.drop n)=0 then takeC (b.drop n) else []),rI (takeE tag (b.drop n))])) [rdr b (if takeE tag (b.drop n)=0 then n+takeN (b.drop n) else n)]:=by
 have hr:=z1u b n hn;have hlr:(b.drop n).length=b.length-n:=Aj;have hm:=z7s (b.drop n) (by omega);have hok:= @q3i tag (b.drop n);generalize hR:b.drop n=r at*;have hE:takeE tag r=if r.length=0 then 4 else if r.getD 0 0≠tag then 6 else (meas r).2.2:=rfl;refine q0b (Af _) ?_;refine rQ fi182 ?_;refine eQ [0] (hr) ?_;refine ⟨fun h=> ?_,fun h=> ?_⟩
 . rw [if_pos (by omega)] at hE;rw [hE];exact ⟨⟨rfl,rfl⟩,rfl⟩
 rw [if_neg (by omega)] at hE;refine ⟨by omega,fun h2=> ?_,fun h2=> ?_⟩
 . rw [if_pos (fun e=>h2 (by subst e;rfl))] at hE;rw [hE];exact ⟨⟨rfl,rfl⟩,rfl⟩
 have:r.getD 0 0=tag:=by
  apply BP.1;have:((r.getD 0 Ty.u8.dflt).toNat:Int)=tag.toNat:=h2
  exact_mod_cast this
 rw [if_neg (by simpa using this)] at hE;refine q0a hm ?_;unfold measV;refine gQ ?_;refine ⟨fun h3=> ?_,fun h3=> ?_⟩
 . have h3':¬(meas r).2.2=0:=by omega
   rw [hE,if_neg h3',if_neg h3'];exact ⟨⟨rfl,rfl⟩,rfl⟩
 have h3':(meas r).2.2=0:=by omega
 have hk:=z1W h3';rw [hE,if_pos h3',if_pos h3',wrapi (by omega),h3'];exact ⟨⟨by omega,hk.2.1,Af _,hk.2.2⟩,⟨rfl,rfl⟩,congrArg (Value.int .i64) (by unfold takeN;omega)⟩
theorem q6z(g:Nat)(tag:UInt8)(b:List UInt8)(n:Nat)(hn:n<=b.length)(hb:b.length<=1099511627776)(v:SV)(right:Bool)(hg:PC Tryz.prog g [.isl .u8 (takeC (b.drop n))] (.tup [v,rB right]))(hv:∃u,(v= .raw u)∨∃xs,v= .isl .u8 xs):
 PE Tryz.prog 130 [.ptr 0 0,.raw (.int .u8 tag.toNat),.fn g [] []] [rdr b n] (.ret (if takeE tag (b.drop n)=0 then (if right then .tup [v,rI 0] else .tup [.raw (.int .i64 0),rI 6]) else .tup [.raw (.int .i64 0),rI (takeE tag (b.drop n))])) [rdr b (if takeE tag (b.drop n)=0∧right=true then n+takeN (b.drop n) else n)]:=by
 have ht:=z0S tag b n hn hb;generalize takeE tag (b.drop n)=e at*;generalize takeC (b.drop n)=c at*;generalize takeN (b.drop n)=k at*;refine q0b (Af _) ?_;refine rQ fi130 ?_;refine eQ [0] (ht) ?_;refine ⟨fun h=> ?_,fun h=> ?_⟩
 . have h':¬e=0:=by omega
   simp only [if_neg h',h',false_and,if_false];with_reducible refine sxE ?_;trivial
 obtain rfl:e=0:=by omega
 simp only [true_and,if_true];refine q0a hg ?_;obtain ⟨u,rfl| ⟨xs,rfl⟩⟩:=hv
 . cases right
   . refine uQ 600 _ ?_;simp (maxSteps:=3000000) only [AY,if_false,go_sem,↓zA,↓reduceIte,↓reduceDIte] <;>try simp only [zB]
   refine gQ ?_;trivial
 cases right
 . refine uQ 600 _ ?_;simp (maxSteps:=3000000) only [AY,if_false,go_sem,↓zA,↓reduceIte,↓reduceDIte] <;>try simp only [zB]
 refine gQ ?_;trivial
theorem z3v(g:Nat)(tag:UInt8)(b:List UInt8)(n:Nat)(hn:n<=b.length)(hb:b.length<=1099511627776)(v:SV)(right:Bool)(hg:PC Tryz.prog g [.isl .u8 (takeC (b.drop n))] (.tup [v,rB right]))(hv:∃u,(v= .raw u)∨∃xs,v= .isl .u8 xs):
 PE Tryz.prog 186 [.ptr 0 0,.raw (.int .u8 tag.toNat),.fn g [] []] [rdr b n] (.ret (if takeE tag (b.drop n)=0 then (if right then .tup [v,rI 0] else .tup [.raw (.string ⟨#[]⟩),rI 6]) else .tup [.raw (.string ⟨#[]⟩),rI (takeE tag (b.drop n))])) [rdr b (if takeE tag (b.drop n)=0∧right=true then n+takeN (b.drop n) else n)]:=by
 have ht:=z0S tag b n hn hb;generalize takeE tag (b.drop n)=e at*;generalize takeC (b.drop n)=c at*;generalize takeN (b.drop n)=k at*;refine q0b (Af _) ?_;refine rQ fi186 ?_;refine eQ [0] (ht) ?_;refine ⟨fun h=> ?_,fun h=> ?_⟩
 . have h':¬e=0:=by omega
   simp only [if_neg h',h',false_and,if_false];with_reducible refine sxE ?_;trivial
 obtain rfl:e=0:=by omega
 simp only [true_and,if_true];refine q0a hg ?_;obtain ⟨u,rfl| ⟨xs,rfl⟩⟩:=hv
 . cases right
   . refine uQ 600 _ ?_;simp (maxSteps:=3000000) only [AY,if_false,go_sem,↓zA,↓reduceIte,↓reduceDIte] <;>try simp only [zB]
   refine gQ ?_;trivial
 cases right
 . refine uQ 600 _ ?_;simp (maxSteps:=3000000) only [AY,if_false,go_sem,↓zA,↓reduceIte,↓reduceDIte] <;>try simp only [zB]
 refine gQ ?_;trivial
theorem q8w(g:Nat)(tag:UInt8)(b:List UInt8)(n:Nat)(hn:n<=b.length)(hb:b.length<=1099511627776)(v:SV)(right:Bool)(hg:PC Tryz.prog g [.isl .u8 (takeC (b.drop n))] (.tup [v,rB right]))(hv:∃u,(v= .raw u)∨∃xs,v= .isl .u8 xs):
 PE Tryz.prog 142 [.ptr 0 0,.raw (.int .u8 tag.toNat),.fn g [] []] [rdr b n] (.ret (if takeE tag (b.drop n)=0 then (if right then .tup [v,rI 0] else .tup [.isl .u8 [],rI 6]) else .tup [.isl .u8 [],rI (takeE tag (b.drop n))])) [rdr b (if takeE tag (b.drop n)=0∧right=true then n+takeN (b.drop n) else n)]:=by
 have ht:=z0S tag b n hn hb;generalize takeE tag (b.drop n)=e at*;generalize takeC (b.drop n)=c at*;generalize takeN (b.drop n)=k at*;refine q0b (Af _) ?_;refine rQ fi142 ?_;refine eQ [0] (ht) ?_;refine ⟨fun h=> ?_,fun h=> ?_⟩
 . have h':¬e=0:=by omega
   simp only [if_neg h',h',false_and,if_false];with_reducible refine sxE ?_;trivial
 obtain rfl:e=0:=by omega
 simp only [true_and,if_true];refine q0a hg ?_;obtain ⟨u,rfl| ⟨xs,rfl⟩⟩:=hv
 . cases right
   . refine uQ 600 _ ?_;simp (maxSteps:=3000000) only [AY,if_false,go_sem,↓zA,↓reduceIte,↓reduceDIte] <;>try simp only [zB]
   refine gQ ?_;trivial
 cases right
 . refine uQ 600 _ ?_;simp (maxSteps:=3000000) only [AY,if_false,go_sem,↓zA,↓reduceIte,↓reduceDIte] <;>try simp only [zB]
 refine gQ ?_;trivial
def inR(v lo hi:Int):Bool:=decide (lo<=v) && decide (v<=hi)
def z9A(v lo hi:Int):PC Tryz.prog 96 [rI v,rI lo,rI hi] (rB (inR v lo hi)):=by
 refine q0q rfl rfl ?_;refine rQ fi96 ?_<;>try with_reducible exact True.intro
 repeat' (first
  | (with_reducible refine And.intro ?_ ?_)
  | (with_reducible intro _))
 all_goals (grind [inR])
theorem j3w(p:Int):PC Tryz.prog 212 [rI p] (rI (keyLen p)):=by
 refine q0q rfl rfl ?_;refine rQ fi212 ?_<;>try with_reducible exact True.intro
 repeat' (first
  | (with_reducible refine And.intro ?_ ?_)
  | (with_reducible intro _))
 all_goals (simp_all [keyLen])
def z5g(p:Int):(0<keyLen p)=(keyLen p≠0):=by unfold keyLen;split<;> (try split) <;>simp
theorem j7h(k:Key):PC Tryz.prog 181 [.agg (KeyT.cells k)] (rB (vKey k)):=by
 refine q0q rfl rfl ?_;refine rQ fi181 ?_<;>try with_reducible exact True.intro
 repeat' (first
  | (refine q0a (j3w _) ?_;refine uQ 600 _ ?_;simp (maxSteps:=3000000) only [go_sem,↓zA,↓reduceIte,↓reduceDIte] <;>try simp only [zB])
  | (refine q0c (j3w _) ?_;refine uQ 600 _ ?_;simp (maxSteps:=3000000) only [go_sem,↓zA,↓reduceIte,↓reduceDIte] <;>try simp only [zB])
  | (refine q0e (j3w _) ?_;refine uQ 600 _ ?_;simp (maxSteps:=3000000) only [go_sem,↓zA,↓reduceIte,↓reduceDIte] <;>try simp only [zB])
  | (refine q0a (z9A _ _ _) ?_;refine uQ 600 _ ?_;simp (maxSteps:=3000000) only [go_sem,↓zA,↓reduceIte,↓reduceDIte] <;>try simp only [zB])
  | (refine q0c (z9A _ _ _) ?_;refine uQ 600 _ ?_;simp (maxSteps:=3000000) only [go_sem,↓zA,↓reduceIte,↓reduceDIte] <;>try simp only [zB])
  | (refine q0e (z9A _ _ _) ?_;refine uQ 600 _ ?_;simp (maxSteps:=3000000) only [go_sem,↓zA,↓reduceIte,↓reduceDIte] <;>try simp only [zB])
  | (with_reducible refine And.intro ?_ ?_)
  | (with_reducible intro _))
 all_goals (simp_all [vKey,inR,z5g])
theorem q4V{xs ys:List UInt8}:strOf xs=strOf ys ↔ xs=ys:=by
 constructor
 . intro h;have:=congrArg (fun s:ByteArray=>s.data.toList) h;simpa [strOf] using this
 rintro rfl;rfl
theorem j7d(a b:Key):PC Tryz.prog 88 [.agg (KeyT.cells a),.agg (KeyT.cells b)] (rB (decide (a=b))):=by
 obtain ⟨p,v,l⟩:=a;obtain ⟨p',v',l'⟩:=b;refine q0q rfl rfl ?_;refine rQ fi88 ?_<;>try with_reducible exact True.intro
 repeat' (first
  | (with_reducible refine And.intro ?_ ?_)
  | (with_reducible intro _))
 all_goals (simp_all [q4V])

def partAt(l:List ByteArray)(j:Nat):Bool:=vPart (l.getD j ByteArray.empty)
theorem j6E(p:Prin)(hp:PrinT.ok p):PC Tryz.prog 48 [.agg (PrinT.cells p)] (rB (vPrin p)):=by
 obtain ⟨l,r⟩:=p;have hl:l.length<=1125899906842624:=hp.1.1;have hd:vPrin (l,r)=((decide (1<=(l.length:Int)) && (decide ((l.length:Int)<=4) && realmB r)) && allN l.length (partAt l)):=rfl;refine q0q rfl rfl ?_;refine rQ fi48 ?_;refine q1u (fun i=>[(3,.raw (.int .i64 ((i:Nat):Int)))]) (l.length) (fun j=>(partAt l) j=true) (by first|decide|simp) (fun i=>rfl) ?_ fun i hi hall=> ?_
 . (with_reducible refine sxE ?_<;>try exact True.intro)
   all_goals (try rfl)
 have hwr:=wsx i (by omega);refine gQ ?_;have bad:i< (l.length)->(partAt l) i=false->allN (l.length) (partAt l)=false:=fun hlt hv=>q0v hlt hv;have fin:¬i< (l.length)->allN (l.length) (partAt l)=true:=fun h=>q0C fun j hj=>hall j (by omega);try dsimp only at bad fin hall
 repeat' (first
  | (refine q0a (z8S _ (hp.1.2 _ (q2l ‹_›))) ?_;refine uQ 600 _ ?_;simp (maxSteps:=3000000) only [go_sem,↓zA,↓reduceIte,↓reduceDIte] <;>try simp only [zB])
  | (refine q0c (z8S _ (hp.1.2 _ (q2l ‹_›))) ?_;refine uQ 600 _ ?_;simp (maxSteps:=3000000) only [go_sem,↓zA,↓reduceIte,↓reduceDIte] <;>try simp only [zB])
  | (refine q0e (z8S _ (hp.1.2 _ (q2l ‹_›))) ?_;refine uQ 600 _ ?_;simp (maxSteps:=3000000) only [go_sem,↓zA,↓reduceIte,↓reduceDIte] <;>try simp only [zB])
  | (refine q0a (z0d _ hp.2) ?_;refine uQ 600 _ ?_;simp (maxSteps:=3000000) only [go_sem,↓zA,↓reduceIte,↓reduceDIte] <;>try simp only [zB])
  | (refine q0c (z0d _ hp.2) ?_;refine uQ 600 _ ?_;simp (maxSteps:=3000000) only [go_sem,↓zA,↓reduceIte,↓reduceDIte] <;>try simp only [zB])
  | (refine q0e (z0d _ hp.2) ?_;refine uQ 600 _ ?_;simp (maxSteps:=3000000) only [go_sem,↓zA,↓reduceIte,↓reduceDIte] <;>try simp only [zB])
  | (with_reducible refine And.intro ?_ ?_)
  | (with_reducible intro _))
 all_goals (first| (with_reducible (refine (id ?_:SoundI _ _ _))) | ((try simp only [Ty.dflt] at*);first|omega| (refine ⟨by omega,q1i hall (by grind [partAt,vPart,szB]),⟨_,by first|rfl|exact List.append_assoc _ _ _| (simp only [List.append_assoc,AH,Ax];rfl)⟩,?_⟩;simp only [hwr,go_sem,↓zA,↓reduceIte,↓reduceDIte] <;> (first|rfl| (grind [partAt,vPart,szB]))) | (refine ⟨_,rfl⟩) | (refine ⟨_,List.append_assoc _ _ _⟩) | (grind [partAt,vPart,szB])))
def eqAt[DecidableEq α](l l':List α)(d:α)(j:Nat):Bool:=decide (l.getD j d=l'.getD j d)
def sameN[DecidableEq α](l l':List α)(d:α):(l=l') ↔ (l.length=l'.length∧allN l.length (eqAt l l' d)=true):=by
 constructor
 . rintro rfl;exact ⟨rfl,q0C fun j _=>by simp [eqAt]⟩
 rintro ⟨h1,h2⟩;apply Aw h1;intro j g1 g2;have:=q3u.1 h2 j g1;simp only [eqAt,decide_eq_true_eq,Aa,Ac g1,Ac g2,A1] at this;exact this
theorem j6H(a b:Prin)(ha:PrinT.ok a):PC Tryz.prog 87 [.agg (PrinT.cells a),.agg (PrinT.cells b)] (rB (decide (a=b))):=by
 obtain ⟨l,r⟩:=a;obtain ⟨l',r'⟩:=b;have hl:l.length<=1125899906842624:=ha.1.1;refine q0q rfl rfl ?_;refine rQ fi87 ?_<;>try with_reducible exact True.intro
 repeat' (first
  | (with_reducible refine And.intro ?_ ?_)
  | (with_reducible intro _))
 all_goals (skip)
 . grind
 . refine q1u (fun i=>[(5,.raw (.int .i64 ((i:Nat):Int)))]) (l.length) (fun j=>(eqAt l l' ByteArray.empty) j=true) (by first|decide|simp) (fun i=>rfl) ?_ fun i hi hall=> ?_
   . (with_reducible refine sxE ?_<;>try exact True.intro)
     all_goals (try rfl)
   have hwr:=wsx i (by omega);refine gQ ?_;have bad:i< (l.length)->(eqAt l l' ByteArray.empty) i=false->allN (l.length) (eqAt l l' ByteArray.empty)=false:=fun hlt hv=>q0v hlt hv;have fin:¬i< (l.length)->allN (l.length) (eqAt l l' ByteArray.empty)=true:=fun h=>q0C fun j hj=>hall j (by omega);try dsimp only at bad fin hall
   have key:=sameN l l' ByteArray.empty
   repeat' (first
    | (with_reducible refine And.intro ?_ ?_)
    | (with_reducible intro _))
   all_goals (first| (with_reducible (refine (id ?_:SoundI _ _ _))) | ((try simp only [Ty.dflt] at*);first|omega| (refine ⟨by omega,q1i hall (by grind [eqAt]),⟨_,by first|rfl|exact List.append_assoc _ _ _| (simp only [List.append_assoc,AH,Ax];rfl)⟩,?_⟩;simp only [hwr,go_sem,↓zA,↓reduceIte,↓reduceDIte] <;> (first|rfl| (grind [eqAt]))) | (refine ⟨_,rfl⟩) | (refine ⟨_,List.append_assoc _ _ _⟩) | (grind [eqAt])))
 grind

end Go.Proofs.YthbcodbcndiapaaGreatDoor