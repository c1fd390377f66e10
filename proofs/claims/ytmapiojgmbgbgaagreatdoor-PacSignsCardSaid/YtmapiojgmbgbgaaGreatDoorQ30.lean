/- Authorisation data: the reference: what is valid, what is equal. -/
import Derived.Test.YtmapiojgmbgbgaaGreatDoorQ29
set_option linter.all false
namespace Go.Proofs.YtmapiojgmbgbgaaGreatDoor
open Go Go.Sx Go.Proofs
set_option maxRecDepth 100000
set_option maxHeartbeats 4000000
def gA(g:List Int)(j:Nat):Int:=g.getD j (Ty.dflt I64)
def lastG(g:List Int)(i:Nat):Int:=if i=0 then -1 else gA g (i-1)
def rgAt(g:List Int)(j:Nat):Bool:=decide (lastG g j<gA g j) && decide (gA g j≤2147483647)
theorem j3a(g:List Int)(j:Nat):grpAt g j=(vNum (gA g j) && (decide (j=0) ||decide (gA g (j-1) <gA g j))):=rfl
theorem z2v{g:List Int}{j:Nat}(h:¬j=0):lastG g j=gA g (j-1):=by unfold lastG;rw [if_neg h]
theorem q6P{g:List Int}{j:Nat}:rgAt g j=true ↔ lastG g j<gA g j∧gA g j≤2147483647:=by simp [rgAt]
theorem z2m{g:List Int}{j:Nat}:grpAt g j=true ↔ (0≤gA g j∧gA g j≤2147483647)∧(j=0∨gA g (j-1) <gA g j):=by
 rw [j3a];simp [vNum,mIn]
theorem j6v(g:List Int)(n:Nat):allN n (rgAt g)=allN n (grpAt g):=by
 rw [Bv,q1v,q1v];constructor
 · intro h;have h0:∀j,j<n→0≤gA g j:=fun j=>by
    induction j with
    |zero=>intro hj;have h1:=(q6P.1 (h 0 hj)).1;rw [show lastG g 0= -1 from rfl] at h1;omega
    |succ j ih=>intro hj;have h1:=(q6P.1 (h (j+1) hj)).1;have h2:=ih (by omega);rw [z2v (by omega),BP] at h1;omega
   intro j hj;have h1:=q6P.1 (h j hj);refine z2m.2 ⟨⟨h0 j hj,h1.2⟩,?_⟩;by_cases e:j=0
   · exact .inl e
   rw [z2v e] at h1;exact .inr h1.1
 intro h j hj;have h1:=z2m.1 (h j hj);refine q6P.2 ⟨?_,h1.1.2⟩;by_cases e:j=0
 · subst e;show (-1:Int) <_;omega
 rw [z2v e];exact h1.2.resolve_left e
theorem q7M(p:Pac)(ho:PacT.ok p):PC Tryz.prog 21 [.agg (PacT.cells p)] (rB (vPac p)):=by
 obtain ⟨c,a,u,g,w⟩:=p;obtain ⟨o1,_,_,o4,o5⟩:=ho;have hd:vPac (c,a,u,g,w)=(allN g.length (rgAt g) && (w.all vPrin&& (vPrin c&& (inR a 0 1099511627776&& (inR u 0 2147483647&& (decide ((g.length:Int)≤64) && decide ((w.length:Int)≤16))))))):=by
  rw [j6v];show (vPrin c&& (vTime a&& (vNum u&& (decide ((g.length:Int)≤64) && (decide ((w.length:Int)≤16) && (allN g.length (grpAt g) && w.all vPrin))))))=_;rw [show vTime a=inR a 0 1099511627776 from rfl,show vNum u=inR u 0 2147483647 from rfl]
  generalize allN g.length (grpAt g)=x1;generalize w.all vPrin=x2;generalize vPrin c=x3;generalize inR a 0 1099511627776=x4;generalize inR u 0 2147483647=x5;generalize decide ((g.length:Int)≤64)=x6;generalize decide ((w.length:Int)≤16)=x7;cases x1<;>cases x2<;>cases x3<;>cases x4<;>cases x5<;>cases x6<;>cases x7<;>rfl
 rw [hd];clear hd;have hgl:List.length g≤1125899906842624:=o4.1;have hwl:List.length w≤1125899906842624:=o5.1;refine q0p rfl rfl ?_;refine rQ fi21 ?_;refine q0R (fun i=>[(3,rI (lastG g i)),(4,.raw (.int .i64 ((i:Nat):Int)))]) (List.length g) (fun j=>(rgAt g) j=true) (by first|decide|simp) (fun i=>rfl) ?_ fun i hi hall=> ?_
 · (with_reducible refine sxE ?_<;>try exact True.intro)
   all_goals (try rfl)
 have hwr:=wsx i (by omega)
 refine gQ ?_;have bad:i< (List.length g)→(rgAt g) i=false→allN (List.length g) (rgAt g)=false:=fun hlt hv=>q0o hlt hv;have fin:¬i< (List.length g)→allN (List.length g) (rgAt g)=true:=fun h=>q0u fun j hj=>hall j (by omega)
 try dsimp only at bad fin hall
 have hgd:rgAt g i=(decide (lastG g i<gA g i) && decide (gA g i≤2147483647)):=rfl;have hls:lastG g (i+1)=gA g i:=by unfold lastG;rw [if_neg (by omega),BP]
 have hga:gA g i=g.getD i (Ty.dflt I64):=rfl;rw [←hga];refine ⟨fun hlt=>⟨⟨by omega,hlt⟩,fun h1=>⟨⟨by omega,hlt⟩,fun h2=> ?_,fun h2=>⟨⟨by omega,hlt⟩,hlt,q0X hall (by rw [hgd,decide_eq_true (Int.not_le.1 h1),decide_eq_true (CX.1 h2)];rfl),⟨[],rfl⟩,?_⟩⟩,fun h1=> ?_⟩,fun hge=> ?_⟩
 · rw [bad hlt (by rw [hgd,decide_eq_false (show ¬gA g i≤2147483647 from Int.not_le.2 h2),BH]),AR]
 · with_reducible refine sy2 hwr hls ?_;trivial
 · rw [bad hlt (by rw [hgd,decide_eq_false (CX.2 h1),AR]),AR]
 rw [fin hge,AE];clear hall bad fin hgd hls hga;have hall2:allN (List.length w) (fun j=>vPrin (w.getD j PrinT.dflt))=List.all w vPrin:=by
  rw [Bv,q1v,A3];constructor
  · intro h x hx;obtain ⟨j,hj,rfl⟩:=AH hx;have:=h j hj;rwa [q3t hj] at this
  intro h j hj;exact h _ (q0O hj)
 rw [←hall2];refine q0R (fun k=>[(5,.raw (.int .i64 ((k:Nat):Int)))]) (List.length w) (fun j=>(fun j=>vPrin (w.getD j PrinT.dflt)) j=true) (by first|decide|simp) (fun i=>rfl) ?_ fun k hik hallk=> ?_
 · (with_reducible refine sxE ?_<;>try exact True.intro)
   all_goals (try rfl)
 have hwrk:=wsx k (by omega)
 refine gQ ?_;have badk:k< (List.length w)→(fun j=>vPrin (w.getD j PrinT.dflt)) k=false→allN (List.length w) (fun j=>vPrin (w.getD j PrinT.dflt))=false:=fun hlt hv=>q0o hlt hv;have fink:¬k< (List.length w)→allN (List.length w) (fun j=>vPrin (w.getD j PrinT.dflt))=true:=fun h=>q0u fun j hj=>hallk j (by omega)
 try dsimp only at badk fink hallk
 refine ⟨fun hlt=>⟨⟨by omega,hlt⟩,q0a (j5U _ (o5.2 _ (q0O hlt))) ?_⟩,fun hge=>q0a (j5U c o1) ?_⟩
 · cases hn:vPrin (w.getD k PrinT.dflt) with
   |false=>
    refine gQ ?_;rw [badk hlt hn];rfl
   |true=>
    refine gQ ?_;refine ⟨hlt,q0X hallk hn,⟨[],rfl⟩,?_⟩;with_reducible refine sx1 hwrk ?_;trivial
 rw [fink hge,AE];refine gQ ?_<;>try with_reducible exact True.intro
 repeat' (first
  | (refine q0a (z2F _ _ _) ?_;refine uQ 600 _ ?_;simp (maxSteps:=3000000) only [go_sem,↓zA,↓reduceIte,↓reduceDIte] <;>try simp only [zB])
  | (refine q0d (z2F _ _ _) ?_;refine uQ 600 _ ?_;simp (maxSteps:=3000000) only [go_sem,↓zA,↓reduceIte,↓reduceDIte] <;>try simp only [zB])
  | (refine q0q (z2F _ _ _) ?_;refine uQ 600 _ ?_;simp (maxSteps:=3000000) only [go_sem,↓zA,↓reduceIte,↓reduceDIte] <;>try simp only [zB])
  | (with_reducible refine And.intro ?_ ?_)
  | (with_reducible intro _))
 all_goals (grind)
set_option maxHeartbeats 40000000
theorem q2L(e:Int):PC Tryz.prog 17 [rI e] (rI e):=by
 refine q0p rfl rfl ?_;refine rQ fi17 ?_;trivial
theorem q5n(c:UInt8)(n:Nat)(hn:n≤1048576):PC Tryz.prog 25 [.raw (.int .u8 c.toNat),rI n] (.isl .u8 (List.replicate n c)):=by
 refine q0f rfl rfl ?_;refine rQ fi25 ?_;refine q2x 5 .u8 (fun i=>List.replicate i c) (fun i=>[(6,rI i)]) n (fun _=>True) rfl (by simp) (by simp) rfl (fun i=>rfl) ?_ fun i hi _=> ?_
 · with_reducible refine sxE ?_;trivial
 have hwr:=wsx i (by omega)
 have hl:(List.replicate i c).length=i:=Bc;refine gy1 hl ?_;refine ⟨fun hlt=> ?_,fun hge=> ?_⟩
 · have hst:List.replicate (i+1) c=List.replicate i c++ [c]:=BT;refine ⟨by rw [BU],⟨by omega,by omega⟩,q1z [_,_] [] hlt trivial (by rw [hst,BU];rfl) ?_⟩
   simp (maxSteps:=3000000) only [hwr,hl,Bc,go_sem,↓zA,↓reduceIte,↓reduceDIte] <;>try simp only [zB]
 obtain rfl:i=n:=by omega
 refine ⟨⟨Ag _,by omega⟩,Aa (by omega)⟩
def strAt(l:List ByteArray)(j:Nat):Bool:=decide ((l.getD j ByteArray.empty).size≤40)
def shortB(p:Prin):Bool:=allN p.1.length (strAt p.1) && (decide ((p.1.length:Int)≤6) && decide ((p.2.size:Int)≤40))
theorem z4B(p:Prin)(ho:PrinT.ok p):PC Tryz.prog 26 [.agg (PrinT.cells p)] (rB (shortB p)):=by
 obtain ⟨l,r⟩:=p;have hl:l.length≤1125899906842624:=ho.1.1;have hd:shortB (l,r)=(allN l.length (strAt l) && (decide ((l.length:Int)≤6) && decide ((r.size:Int)≤40))):=rfl;rw [hd];refine q0p rfl rfl ?_;refine rQ fi26 ?_;refine q0R (fun i=>[(3,.raw (.int .i64 ((i:Nat):Int)))]) (l.length) (fun j=>(strAt l) j=true) (by first|decide|simp) (fun i=>rfl) ?_ fun i hi hall=> ?_
 · (with_reducible refine sxE ?_<;>try exact True.intro)
   all_goals (try rfl)
 have hwr:=wsx i (by omega)
 refine gQ ?_;have bad:i< (l.length)→(strAt l) i=false→allN (l.length) (strAt l)=false:=fun hlt hv=>q0o hlt hv;have fin:¬i< (l.length)→allN (l.length) (strAt l)=true:=fun h=>q0u fun j hj=>hall j (by omega)
 try dsimp only at bad fin hall
 have hsd:strAt l i=decide ((l.getD i ByteArray.empty).size≤40):=rfl;refine ⟨fun hlt=>⟨⟨by omega,hlt⟩,fun h=> ?_,fun h=>⟨hlt,q0X hall ?_,⟨[],rfl⟩,?_⟩⟩,fun hge=> ?_⟩
 · rw [bad hlt (by rw [hsd];exact decide_eq_false (show ¬(l.getD i ByteArray.empty).size≤40 from fun h2=>by have h:40< (((l.getD i ByteArray.empty).size:Nat):Int):=h;omega)),AR]
 · rw [hsd];exact decide_eq_true (show (l.getD i ByteArray.empty).size≤40 from Nat.le_of_not_lt fun h2=>h (show (40:Int) < (((l.getD i ByteArray.empty).size:Nat):Int) by omega))
 · with_reducible refine sx1 hwr ?_;trivial
 rw [fin hge,AE];exact ⟨fun h=>by rw [decide_eq_true h,AE],fun h=>by rw [decide_eq_false h,AR]⟩
def viaAt(l:List Prin)(j:Nat):Bool:=shortB (l.getD j PrinT.dflt)
def smallP(p:Pac):Bool:=allN p.2.2.2.2.length (viaAt p.2.2.2.2) && (shortB p.1&& (decide ((p.2.2.2.1.length:Int)≤70) && decide ((p.2.2.2.2.length:Int)≤20)))
theorem z9U(p:Pac)(ho:PacT.ok p):PC Tryz.prog 9 [.agg (PacT.cells p)] (rB (smallP p)):=by
 obtain ⟨c,a,u,g,w⟩:=p;obtain ⟨o1,_,_,o4,o5⟩:=ho;have hd:smallP (c,a,u,g,w)=(allN w.length (viaAt w) && (shortB c&& (decide ((g.length:Int)≤70) && decide ((w.length:Int)≤20)))):=rfl;rw [hd];have hwl:List.length w≤1125899906842624:=o5.1;refine q0p rfl rfl ?_;refine rQ fi9 ?_;refine q0R (fun i=>[(3,.raw (.int .i64 ((i:Nat):Int)))]) (List.length w) (fun j=>(viaAt w) j=true) (by first|decide|simp) (fun i=>rfl) ?_ fun i hi hall=> ?_
 · (with_reducible refine sxE ?_<;>try exact True.intro)
   all_goals (try rfl)
 have hwr:=wsx i (by omega)
 refine gQ ?_;have bad:i< (List.length w)→(viaAt w) i=false→allN (List.length w) (viaAt w)=false:=fun hlt hv=>q0o hlt hv;have fin:¬i< (List.length w)→allN (List.length w) (viaAt w)=true:=fun h=>q0u fun j hj=>hall j (by omega)
 try dsimp only at bad fin hall
 have hsd:viaAt w i=shortB (w.getD i PrinT.dflt):=rfl;refine ⟨fun hlt=>⟨⟨by omega,hlt⟩,q0a (z4B (w.getD i PrinT.dflt) (o5.2 _ (q0O hlt))) ?_⟩,fun hge=> ?_⟩
 · cases hk:shortB (w.getD i PrinT.dflt) with
   |true=>
    refine gQ ?_;refine ⟨hlt,q0X hall (hsd.trans hk),⟨[],rfl⟩,?_⟩;with_reducible refine sx1 hwr ?_;trivial
   |false=>
    refine gQ ?_;rw [bad hlt (hsd.trans hk),AR]
 rw [fin hge,AE];refine q0a (z4B c o1) ?_;cases shortB c with
 |true=>
  refine gQ ?_;exact ⟨fun h=>by rw [decide_eq_true h,AE],fun h=>by rw [decide_eq_false h,AR]⟩
 |false=>
  refine gQ ?_;trivial
def keyAt(l:List Key)(j:Nat):Bool:=decide (((l.getD j KeyT.dflt).2.2.length:Int)≤100)
theorem j3b(l:List Key)(hl:l.length≤1000):PC Tryz.prog 11 [.isl KeyT l] (rB (allN l.length (keyAt l))):=by
 refine q0p rfl rfl ?_;refine rQ fi11 ?_;refine q0R (fun i=>[(3,.raw (.int .i64 ((i:Nat):Int)))]) (l.length) (fun j=>(keyAt l) j=true) (by first|decide|simp) (fun i=>rfl) ?_ fun i hi hall=> ?_
 · (with_reducible refine sxE ?_<;>try exact True.intro)
   all_goals (try rfl)
 have hwr:=wsx i (by omega)
 refine gQ ?_;have bad:i< (l.length)→(keyAt l) i=false→allN (l.length) (keyAt l)=false:=fun hlt hv=>q0o hlt hv;have fin:¬i< (l.length)→allN (l.length) (keyAt l)=true:=fun h=>q0u fun j hj=>hall j (by omega)
 try dsimp only at bad fin hall
 have hsd:keyAt l i=decide (((l.getD i KeyT.dflt).2.2.length:Int)≤100):=rfl;refine ⟨fun hlt=>⟨⟨by omega,hlt⟩,fun h=> ?_,fun h=>⟨hlt,q0X hall ?_,⟨[],rfl⟩,?_⟩⟩,fun hge=> ?_⟩
 · rw [bad hlt (by rw [hsd];exact decide_eq_false (fun h2=>by have h:100< (((l.getD i KeyT.dflt).2.2.length:Nat):Int):=h;omega))]
 · rw [hsd];exact decide_eq_true (CX.1 fun h2=>h h2)
 · with_reducible refine sx1 hwr ?_;trivial
 rw [fin hge]
theorem j1s(k:Key)(u:Nat)(x:List UInt8):fitK k (sigK k u x)=true:=by simp [fitK,sigK]
theorem q6A(k:Key)(u:Nat)(x:List UInt8):rightB k u x (sigK k u x)=true:=by
 unfold rightB;rw [j1s];simp [sigK]
theorem q9c{k:Key}(u:Nat)(x:List UInt8)(s:Key)(h:noK k=true):rightB k u x s=true:=by
 unfold rightB;rw [h,CM]
theorem z0A{p:Pac}{s r s' r':Key}(hv:vPac p=true)(hs:vKey s=true)(hr:vKey r=true)(h1:s'=s∨noK s'=true)(h2:r'=r∨noK r'=true):vfyS (sgnS (signX p s r)) s' r'=(p,0):=by
 have a1:argK s'=true:=by
  unfold argK;rcases h1 with rfl|h
  · rw [hs,Ca]
  rw [h,CM]
 have a2:argK r'=true:=by
  unfold argK;rcases h2 with rfl|h
  · rw [hr,Ca]
  rw [h,CM]
 have hX:signX p s r=(p,sigK s 17 (pacS p),sigK r 18 (smS s 17 (pacS p))):=rfl;unfold vfyS;rw [a1,a2,BD,if_pos rfl,z0o (z3z hv hs hr),hX];dsimp only;have e1:rightB s' 17 (pacS p) (sigK s 17 (pacS p))=true:=by
  rcases h1 with rfl|h
  · exact q6A _ _ _
  exact q9c _ _ _ h
 have e2:rightB r' 18 (sigK s 17 (pacS p)).2.2 (sigK r 18 (smS s 17 (pacS p)))=true:=by
  rcases h2 with rfl|h
  · exact q6A _ _ _
  exact q9c _ _ _ h
 rw [e1,if_pos rfl,e2,if_pos rfl]
set_option maxHeartbeats 4000000
def chkR(b:List UInt8)(a n:Nat):Option (Nat×Nat):=if b.length-a<n then none else some (a,a+n)
def fstR(b:List UInt8):Option (Nat×Nat):=
 if b.length<2 then none else
 if (b.getD 1 0).toNat<128 then chkR b 2 (b.getD 1 0).toNat else
 if (b.getD 1 0).toNat-128<1∨3< (b.getD 1 0).toNat-128∨b.length<2+ ((b.getD 1 0).toNat-128) then none else
 chkR b (2+ ((b.getD 1 0).toNat-128)) (beN ((b.drop 2).take ((b.getD 1 0).toNat-128)))
def fstV(b:List UInt8):SV:=match fstR b with
 |none=>.tup [rI 0,.isl .u8 [],rI 0]
 |some (a,e)=>.tup [rI (b.getD 0 0).toNat,.isl .u8 ((b.take e).drop a),rI e]
theorem z7s(l:List UInt8)(h:l.length≤3):beN l<16777216:=by
 have h1:=q5y l;have h2:256^ l.length≤256^ 3:=A6 (by decide) h
 omega
theorem z4v(b:List UInt8)(hb:b.length≤1099511627776):PC Tryz.prog 140 [.isl .u8 b] (fstV b):=by
 have hx:(b.getD 1 Ty.u8.dflt).toNat<256:=BF _;have hd:b.getD 1 0=b.getD 1 Ty.u8.dflt:=rfl;have e0:IntKind.i64.wrap ((b.getD 1 Ty.u8.dflt).toNat:Int)=(((b.getD 1 Ty.u8.dflt).toNat:Nat):Int):=wrapi (by omega)
 have e1:IntKind.i64.wrap (((b.getD 1 Ty.u8.dflt).toNat:Int) -128)=((b.getD 1 Ty.u8.dflt).toNat:Int) -128:=wrapi (by omega)
 have e2:IntKind.i64.wrap (2+ (((b.getD 1 Ty.u8.dflt).toNat:Int) -128))=2+ (((b.getD 1 Ty.u8.dflt).toNat:Int) -128):=wrapi (by omega)
 have e3:IntKind.i64.wrap ((b.length:Int) -2)=(b.length:Int) -2:=wrapi (by omega)
 have e4:IntKind.i64.wrap (2+ ((b.getD 1 Ty.u8.dflt).toNat:Int))=2+ ((b.getD 1 Ty.u8.dflt).toNat:Int):=wrapi (by omega)
 have e5:IntKind.i64.wrap ((b.getD 0 Ty.u8.dflt).toNat:Int)=(((b.getD 0 Ty.u8.dflt).toNat:Nat):Int):=wrapi (by have:=(b.getD 0 Ty.u8.dflt).toNat_lt;omega)
 have hno:fstR b=none→fstV b= .tup [rI 0,.isl .u8 [],rI 0]:=fun h=>by unfold fstV;rw [h]
 have hyes:∀a e,fstR b=some (a,e)→fstV b= .tup [rI (b.getD 0 0).toNat,.isl .u8 ((b.take e).drop a),rI e]:=fun a e h=>by unfold fstV;rw [h]
 have hsc:(fstV b).clean=true:=by
  cases h:fstR b with
  |none=>rw [hno h];rfl
  |some y=>obtain ⟨a,e⟩:=y;rw [hyes a e h];rfl
 generalize fstV b=W at*;refine q0f rfl hsc ?_;refine q3E fi140 (q0z mixed 600 _ ?_);simp (maxSteps:=3000000) only [ir140,e0,e1,e2,e3,e4,e5,go_sem,↓zA,↓reduceIte,↓reduceDIte] <;>try simp only [zB]
 generalize hxx:b.getD 1 Ty.u8.dflt=x at*;have hF:∀r,fstR b=r→fstR b=r:=fun _ h=>h;have hno':fstR b=none→(SV.tup [SV.raw (Value.int IntKind.i64 0),SV.raw (Value.slice none 0 0),SV.raw (Value.int IntKind.i64 0)]).leV W:=fun h=>by
  rw [hno h];with_reducible refine sxE ?_;trivial
 refine ⟨fun h=> ?_,fun h=>⟨by omega,fun h2=>⟨fun h3=>⟨fun h4=>⟨fun h5=> ?_,fun h5=> ?_⟩,fun h4=> ?_⟩,fun h3=> ?_⟩,fun h2=>⟨fun h3=> ?_,fun h3=> ?_⟩⟩⟩
 · refine hno' ?_;unfold fstR;rw [if_pos (by omega)]
 · refine hno' ?_;unfold fstR;rw [hd,if_neg (by omega),if_neg (by omega),if_pos (by omega)]
 · obtain ⟨m,hxm⟩:∃m:Nat,(x.toNat:Int) -128=(m:Int):=⟨x.toNat-128,by omega⟩
   have hm3:1≤m∧m≤3:=by omega
   have hmn:x.toNat-128=m:=by omega
   rw [hxm];have hl2:(b.drop 2).length=b.length-2:=Al;generalize hL:b.drop 2=L at*;have hgd:∀i,L.getD i Ty.u8.dflt=b.getD (2+i) Ty.u8.dflt:=fun i=>by
    rw [←hL,Ad,AG,Ad]
   have hfst:∀v,beN (L.take m)=v→fstR b=chkR b (2+m) v:=fun v hv=>by
    unfold fstR;rw [hd,hL,hmn,if_neg (by omega),if_neg (by omega),if_neg (by omega),hv]
   refine q0R (fun i=>[(5,rI (beN (L.take i))),(8,.raw (.int .i64 ((i:Nat):Int)))]) (m) (fun j=>(fun _=>true) j=true) (by first|decide|simp) (fun i=>rfl) ?_ fun i hi hall=> ?_
   · (with_reducible refine sxE ?_<;>try exact True.intro)
     all_goals (try rfl)
   have hwr:=wsx i (by omega)
   refine gQ ?_;have bad:i< (m)→(fun _=>true) i=false→allN (m) (fun _=>true)=false:=fun hlt hv=>q0o hlt hv;have fin:¬i< (m)→allN (m) (fun _=>true)=true:=fun h=>q0u fun j hj=>hall j (by omega)
   try dsimp only at bad fin hall
   refine ⟨fun hlt=> ?_,fun hge=> ?_⟩
   · have hi2:IntKind.i64.wrap (2+ (i:Int))=((2+i:Nat):Int):=by rw [wrapi (by omega)];omega
     have hv:=z7s (L.take i) (by simp;omega)
     have hc:(b.getD (2+i) Ty.u8.dflt).toNat<256:=BF _;have w1:IntKind.i64.wrap (256* (beN (L.take i):Int))=256* (beN (L.take i):Int):=wrapi (by omega)
     have w2:IntKind.i64.wrap ((b.getD (2+i) Ty.u8.dflt).toNat:Int)=(((b.getD (2+i) Ty.u8.dflt).toNat:Nat):Int):=wrapi (by omega)
     have e6:=q4w L i (by omega)
     have e7:L.getD i 0=b.getD (2+i) Ty.u8.dflt:=hgd i;rw [e7] at e6;rw [hi2,Bf,w1,w2];have w3:IntKind.i64.wrap (256* (beN (L.take i):Int)+ ((b.getD (2+i) Ty.u8.dflt).toNat:Int))=(beN (L.take (i+1)):Int):=by rw [wrapi (by omega),e6];omega
     rw [w3];refine ⟨⟨by omega,by omega⟩,hlt,trivial,⟨[],rfl⟩,?_⟩
     with_reducible refine sx1 hwr ?_;trivial
   obtain rfl:i=m:=by omega
   have hv:=z7s (L.take i) (by simp;omega)
   generalize hV:beN (L.take i)=V at*;have hf:=hfst V rfl;have w1:IntKind.i64.wrap (2+ (i:Int))=((2+i:Nat):Int):=by rw [wrapi (by omega)];omega
   have w2:IntKind.i64.wrap (((2+i:Nat):Int)+ (V:Int))=((2+i+V:Nat):Int):=by rw [wrapi (by omega)];omega
   have w3:IntKind.i64.wrap ((b.length:Int) - ((2+i:Nat):Int))=(b.length:Int) - ((2+i:Nat):Int):=wrapi (by omega)
   rw [w1,w3,w2,e5];refine ⟨fun q=>hno' (by rw [hf];unfold chkR;rw [if_pos (by omega)]),fun q=>⟨by omega,⟨by omega,by omega,by omega⟩,?_⟩⟩
   rw [hyes (2+i) (2+i+V) (by rw [hf];unfold chkR;rw [if_neg (by omega)])]
   with_reducible refine sxE ?_
   rfl
 · refine hno' ?_;unfold fstR;rw [hd,if_neg (by omega),if_neg (by omega),if_pos (by omega)]
 · refine hno' ?_;unfold fstR;rw [hd,if_neg (by omega),if_neg (by omega),if_pos (by omega)]
 · refine hno' ?_;unfold fstR chkR;rw [hd,if_neg (by omega),if_pos (by omega),if_pos (by omega)]
 have hf:fstR b=some (2,2+x.toNat):=by unfold fstR chkR;rw [hd,if_neg (by omega),if_pos (by omega),if_neg (by omega)]
 rw [hyes _ _ hf];have ht:((2:Int)+ (x.toNat:Int)).toNat=2+x.toNat:=by omega
 rw [ht];refine ⟨by omega,⟨by omega,by omega⟩,?_⟩
 with_reducible refine sxE ?_
 exact ⟨rfl,congrArg (Value.int .i64) (by omega)⟩
def conR(b:List UInt8):List UInt8:=match fstR b with
 |none=>[]
 |some (a,e)=>(b.take e).drop a
theorem q8k{b:List UInt8}{a e:Nat}(h:fstR b=some (a,e)):2≤a∧a≤e∧e≤b.length:=by
 have key:∀a' n,chkR b a' n=some (a,e)→2≤a'→a'≤b.length→2≤a∧a≤e∧e≤b.length:=by
  intro a' n h1 h2 h3;unfold chkR at h1;split at h1
  · cases h1
  cases h1;omega
 unfold fstR at h;split at h
 · cases h
 split at h
 · exact key _ _ h (by omega) (by omega)
 split at h
 · cases h
 exact key _ _ h (by omega) (by omega)
theorem q2o(b:List UInt8):(conR b).length≤b.length:=by
 unfold conR;split
 · simp
 rw [Al,Av];omega
theorem q1D(b:List UInt8)(hb:b.length≤1099511627776):PC Tryz.prog 75 [.isl .u8 b] (.isl .u8 (conR b)):=by
 have h:=z4v b hb;unfold fstV at h;unfold conR;refine q0f rfl rfl ?_;refine rQ fi75 ?_;refine q0a h ?_;cases hf:fstR b with
 |none=>
  refine gQ ?_;trivial
 |some y=>
  obtain ⟨a,e⟩:=y;refine gQ ?_;trivial
def elsR:Nat→List UInt8→List (List UInt8)
 |0,_=>[]
 |f+1,b=>match fstR b with
  |none=>[]
  |some (_,e)=>b.take e :: elsR f (b.drop e)
theorem q7J:∀ (f:Nat) (b:List UInt8),b.length≤f→elsR f b=elsR b.length b
 |0,b,h=>by
  have:b= []:=A2.1 (by omega)
  subst this;rfl
 |f+1,b,h=>by
  cases hb:b.length with
  |zero=>
   have:b= []:=A2.1 hb;subst this;simp [elsR,fstR]
  |succ n=>
   simp only [elsR];cases hf:fstR b with
   |none=>rfl
   |some y=>
    obtain ⟨a,e⟩:=y;have hle:=q8k hf;simp only;rw [q7J f (b.drop e) (by rw [Al];omega),q7J n (b.drop e) (by rw [Al];omega)]
theorem z6J{b:List UInt8}(h:fstR b=none):elsR b.length b= []:=by
 cases hb:b.length with
 |zero=>rfl
 |succ n=>simp only [elsR,h]
theorem z1G{b:List UInt8}{a e:Nat}(h:fstR b=some (a,e)):elsR b.length b=b.take e :: elsR (b.drop e).length (b.drop e):=by
 have hle:=q8k h;cases hb:b.length with
 |zero=>omega
 |succ n=>
  simp only [elsR,h];rw [q7J n (b.drop e) (by rw [Al];omega)]
theorem q4i(b:List UInt8)(hb:b.length≤1048576):PC Tryz.prog 74 [.isl .u8 b] (.isl (.slice .u8) (elsR b.length b)):=by
 refine q0f rfl rfl ?_;refine rQ fi74 ?_;refine z1S 3 (.slice .u8) rfl rfl ?_;with_reducible refine sxE ?_
 refine q0i (ι:=List UInt8×List (List UInt8)×List SObj) (fun s=>[(0,.isl .u8 s.1),(3,.bld s.2.2.length (.slice .u8) s.2.1.length)]) (fun s=>s.2.2++ [.row (.slice .u8) s.2.1]) (fun s=>s.1.length) (fun s=>s.1.length≤b.length∧s.2.1.length+s.1.length≤b.length∧elsR b.length b=s.2.1++elsR s.1.length s.1) (b,[],[]) ⟨Ag _,by simp,rfl⟩ rfl ?_ ?_
 · with_reducible refine sxE ?_;trivial
 rintro ⟨r,acc,G⟩ ⟨h1,h2,h3⟩;dsimp only at h1 h2 h3;have hf:=z4v r (by omega)
 refine aQ ?_;refine q0a hf ?_;unfold fstV;cases hx:fstR r with
 |none=>
  rw [z6J hx,Ai] at h3;rw [h3];refine aQ ?_;exact ⟨⟨Ag _,by omega⟩,AA⟩
 |some y=>
  obtain ⟨a,e⟩:=y;have hle:=q8k hx;rw [z1G hx] at h3;refine aQ ?_;refine ⟨fun q=>by exfalso;omega,fun _=>⟨⟨by omega,by omega⟩,⟨by omega,by omega⟩,⟨by omega,by omega,Ag _⟩,?_⟩⟩
  rw [AA];have hl:(r.drop e).length=r.length-e:=Al;refine ⟨(r.drop e,acc++ [r.take e],G++ [.dead,.row (.slice .u8) [r.take e]]),⟨?_,?_,?_⟩,?_,?_,?_⟩
  · dsimp only;omega
  · dsimp only;rw [List.length_append,hl];simp;omega
  · dsimp only;rw [h3,List.append_assoc];rfl
  · dsimp only;omega
  · simp
  with_reducible refine sxaE ?_;trivial
theorem q3M:∀ (f:Nat) (b:List UInt8),∀x∈elsR f b,2≤x.length∧x.length≤b.length
 |0,b,x,h=>by simp [elsR] at h
 |f+1,b,x,h=>by
  simp only [elsR] at h;cases hf:fstR b with
  |none=>rw [hf] at h;simp at h
  |some y=>
   obtain ⟨a,e⟩:=y;have hle:=q8k hf;rw [hf] at h;simp only [Bi] at h;rcases h with rfl|h
   · rw [Av];omega
   have:=q3M f (b.drop e) x h;rw [Al] at this;omega
theorem q4D:∀ (f:Nat) (b:List UInt8),(elsR f b).length≤b.length
 |0,b=>by simp [elsR]
 |f+1,b=>by
  simp only [elsR];cases hf:fstR b with
  |none=>simp
  |some y=>
   obtain ⟨a,e⟩:=y;have hle:=q8k hf;have:=q4D f (b.drop e);rw [Al] at this;simp only [AF];omega
def isTag(n:Nat)(x:List UInt8):Bool:=decide (((x.getD 0 0).toNat:Int)=160+ (n:Int))
def fndR(n:Nat)(l:List (List UInt8)):List UInt8:=match l.find? (isTag n) with
 |none=>[]
 |some x=>conR x
def itmR(b:List UInt8)(n:Nat):List UInt8:=fndR n (elsR (conR b).length (conR b))
theorem j4l{n:Nat}{l:List (List UInt8)}{i:Nat}(h:i<l.length)(hq:isTag n (l.getD i [])=true)(hn:∀j,j<i→isTag n (l.getD j [])=false):fndR n l=conR (l.getD i []):=by
 have:l.find? (isTag n)=some (l.getD i []):=by
  rw [List.find?_eq_some_iff_getElem];refine ⟨hq,i,h,by rw [Ad,Ae h];rfl,fun j hj=> ?_⟩
  have:=hn j hj;rw [Ad,Ae (by omega)] at this
  simpa using this
 unfold fndR;rw [this]
theorem j2M{n:Nat}{l:List (List UInt8)}(hn:∀j,j<l.length→isTag n (l.getD j [])=false):fndR n l= []:=by
 have:l.find? (isTag n)=none:=by
  rw [CQ];intro x hx;obtain ⟨j,hj,rfl⟩:=AH hx;have:=hn j hj;rw [Ad,Ae hj] at this;simpa using this
 unfold fndR;rw [this]
theorem q1s(b:List UInt8)(n:Nat):(itmR b n).length≤b.length:=by
 unfold itmR fndR;split
 · simp
 rename_i x hx;have h1:=q3M _ _ x (List.mem_of_find?_eq_some hx);have h2:=q2o x;have h3:=q2o b;omega
theorem q3o(b:List UInt8)(n:Nat)(hn:n≤30)(hb:b.length≤1048576):PC Tryz.prog 58 [.isl .u8 b,rI n] (.isl .u8 (itmR b n)):=by
 have hl:=q2o b;have hc:=q1D b (by omega)
 have he:=q4i (conR b) (by omega)
 have hm:=q3M (conR b).length (conR b);have hle:=q4D (conR b).length (conR b);have hd:itmR b n=fndR n (elsR (conR b).length (conR b)):=rfl;rw [hd];generalize elsR (conR b).length (conR b)=l at*;refine q0f rfl rfl ?_;refine rQ fi58 ?_;refine cQ hc ?_;refine cQ he ?_;refine q0R (fun i=>[(6,.raw (.int .i64 ((i:Nat):Int)))]) (l.length) (fun j=>(fun j=> !isTag n (l.getD j [])) j=true) (by first|decide|simp) (fun i=>rfl) ?_ fun i hi hall=> ?_
 · (with_reducible refine sxE ?_<;>try exact True.intro)
   all_goals (try rfl)
 have hwr:=wsx i (by omega)
 refine gQ ?_;have bad:i< (l.length)→(fun j=> !isTag n (l.getD j [])) i=false→allN (l.length) (fun j=> !isTag n (l.getD j []))=false:=fun hlt hv=>q0o hlt hv;have fin:¬i< (l.length)→allN (l.length) (fun j=> !isTag n (l.getD j []))=true:=fun h=>q0u fun j hj=>hall j (by omega)
 try dsimp only at bad fin hall
 refine ⟨fun hlt=> ?_,fun hge=> ?_⟩
 · have hmm:=hm _ (q0O (d:=(Ty.slice .u8).dflt) hlt);have hx:=(List.getD (l.getD i (Ty.slice .u8).dflt) 0 Ty.u8.dflt).toNat_lt;have w1:IntKind.i64.wrap ((List.getD (l.getD i (Ty.slice .u8).dflt) 0 Ty.u8.dflt).toNat:Int)=(((List.getD (l.getD i (Ty.slice .u8).dflt) 0 Ty.u8.dflt).toNat:Nat):Int):=wrapi (by omega)
   have w2:IntKind.i64.wrap (160+ (n:Int))=160+ (n:Int):=wrapi (by omega)
   rw [w1,w2];refine ⟨⟨by omega,hlt⟩,by omega,fun q=>⟨⟨by omega,hlt⟩,q0a (q1D _ (by omega)) ?_⟩,fun q=> ?_⟩
   · have hq:isTag n (l.getD i [])=true:=decide_eq_true q;rw [j4l hlt hq (fun j hj=>by have:=hall j hj;simpa using this)]
     refine gQ ?_;rfl
   have hq:isTag n (l.getD i [])=false:=decide_eq_false q;refine ⟨hlt,q0X (fun j hj=>by have:=hall j hj;simpa using this) hq,⟨[],rfl⟩,?_⟩
   with_reducible refine sx1 hwr ?_;trivial
 rw [j2M (fun j hj=>by have:=hall j (by omega);simpa using this)]
def gIntR(b:List UInt8):Nat:=beN ((conR b).take 7)
theorem q5J(b:List UInt8)(hb:b.length≤1099511627776):PC Tryz.prog 73 [.isl .u8 b] (rI (gIntR b)):=by
 have hc:=q1D b hb;unfold gIntR;generalize conR b=c at*;refine q0f rfl rfl ?_;refine rQ fi73 ?_;refine cQ hc ?_;refine q0R (fun i=>[(4,rI (beN (c.take i))),(5,.raw (.int .i64 ((i:Nat):Int)))]) (min c.length 7) (fun j=>(fun _=>true) j=true) (by first|decide|simp) (fun i=>rfl) ?_ fun i hi hall=> ?_
 · (with_reducible refine sxE ?_<;>try exact True.intro)
   all_goals (try rfl)
 have hwr:=wsx i (by omega)
 refine gQ ?_;have bad:i< (min c.length 7)→(fun _=>true) i=false→allN (min c.length 7) (fun _=>true)=false:=fun hlt hv=>q0o hlt hv;have fin:¬i< (min c.length 7)→allN (min c.length 7) (fun _=>true)=true:=fun h=>q0u fun j hj=>hall j (by omega)
 try dsimp only at bad fin hall
 refine ⟨fun h1=>⟨fun h2=>⟨⟨by omega,h1⟩,?_⟩,fun h2=> ?_⟩,fun h1=> ?_⟩
 · have hv:=q5y (c.take i);have hv2:256^ (c.take i).length≤256^ 6:=A6 (by decide) (by simp;omega)
   have hcc:(c.getD i Ty.u8.dflt).toNat<256:=BF _;have w1:IntKind.i64.wrap (256* (beN (c.take i):Int))=256* (beN (c.take i):Int):=wrapi (by omega)
   have w2:IntKind.i64.wrap ((c.getD i Ty.u8.dflt).toNat:Int)=(((c.getD i Ty.u8.dflt).toNat:Nat):Int):=wrapi (by omega)
   have e6:beN (c.take (i+1))=beN (c.take i)*256+ (c.getD i Ty.u8.dflt).toNat:=q4w c i h1;have w3:IntKind.i64.wrap (256* (beN (c.take i):Int)+ ((c.getD i Ty.u8.dflt).toNat:Int))=(beN (c.take (i+1)):Int):=by rw [wrapi (by omega),e6];omega
   rw [w1,w2,w3];refine ⟨by omega,trivial,⟨[],rfl⟩,?_⟩
   with_reducible refine sx1 hwr ?_;trivial
 · obtain rfl:i=7:=by omega
   rfl
 obtain rfl:i=c.length:=by omega
 rw [AA,Aa (by omega)]
theorem z5q(b:List UInt8)(hb:b.length≤1048576):PC Tryz.prog 169 [.isl .u8 b] (.isl .u8 (conR b)):=by
 have hc:=q1D b (by omega)
 have hl:=q2o b;generalize conR b=c at*;refine q0f rfl rfl ?_;refine rQ fi169 ?_;refine cQ hc ?_;exact ⟨⟨by omega,by omega⟩,⟨by omega,by omega⟩,Aa (by omega)⟩
theorem z8m{b:List UInt8}(h:(meas b).2.2=0):fstR b=some ((meas b).1,(meas b).2.1):=by
 have key:∀a n,(measE b a n).2.2=0→chkR b a n=some ((measE b a n).1,(measE b a n).2.1):=by
  intro a n h1;unfold measE at h1⊢;unfold chkR;split at h1
  · cases h1
  rename_i hh;rw [if_neg hh,if_neg hh]
 unfold meas at h⊢;unfold fstR;split at h
 · cases h
 rename_i g1;rw [if_neg g1,if_neg g1];split at h
 · rename_i g2;rw [if_pos g2,if_pos g2];exact key _ _ h
 rename_i g2;rw [if_neg g2,if_neg g2];split at h
 · cases h
 rename_i g3;split at h
 · cases h
 rename_i g4;split at h
 · cases h
 rename_i g5;rw [if_neg (by omega),if_neg g3,if_neg g4,if_neg g5]
 exact key _ _ h
theorem z3N(t:UInt8)(c r:List UInt8)(h:c.length≤16777215):fstR (tlv t c++r)=some (1+ (lenS c.length).length,(tlv t c).length):=by
 have hm:=q5h t c r h;rw [z8m (by rw [hm]),hm,q1p]
theorem j0M(t:UInt8)(c r:List UInt8)(h:c.length≤16777215):conR (tlv t c++r)=c:=by
 have:=q7E t c r h;unfold takeC at this;rw [q5h t c r h] at this;unfold conR;rw [z3N t c r h];simp only at this⊢;rw [q1p];exact this
theorem conR_tlv'(t:UInt8)(c:List UInt8)(h:c.length≤16777215):conR (tlv t c)=c:=by
 have:=j0M t c [] h;rwa [Ai] at this
def isEl(x:List UInt8):Prop:=∃t c,x=tlv t c∧c.length≤16777215
theorem q5f:∀ (L:List (List UInt8)),(∀x∈L,isEl x)→elsR L.flatten.length L.flatten=L
 | [],_=>rfl
 |x :: L,h=>by
  obtain ⟨t,c,rfl,hc⟩:=h x (by simp)
  have hf:=z3N t c L.flatten hc;rw [Aq,z1G hf,List.take_left,CP,q5f L fun y hy=>h y (by simp [hy])]
theorem z5D{l:List (List UInt8)}:(l.filter fun x=> !x.isEmpty).flatten=l.flatten:=by
 induction l with
 |nil=>rfl
 |cons x l ih=>
  cases x with
  |nil=>simp [ih]
  |cons a x=>simp [ih]
def wrapsL(l:List (List UInt8))(n k:Nat):List (List UInt8):=((List.range' n k).map fun j=>wrapS 160 (j:Nat) (l.getD j [])).filter fun x=> !x.isEmpty
theorem q7W(l:List (List UInt8))(n k:Nat):wrapsL l n (k+1)=if wrapS 160 (n:Nat) (l.getD n [])= [] then wrapsL l (n+1) k else wrapS 160 (n:Nat) (l.getD n []) :: wrapsL l (n+1) k:=by
 unfold wrapsL;rw [CW,AY,List.filter_cons];cases wrapS 160 (n:Nat) (l.getD n []) <;>simp
theorem z9I{l:List (List UInt8)}{n k:Nat}(hl:∀j,(l.getD j []).length≤16777215)(hn:n+k≤31):elsR (sufS l n k).length (sufS l n k)=wrapsL l n k:=by
 have:sufS l n k=(wrapsL l n k).flatten:=by unfold wrapsL sufS;rw [z5D]
 rw [this];refine q5f _ fun x hx=> ?_;unfold wrapsL at hx;simp only [List.mem_filter,Bl,List.mem_range'_1] at hx;obtain ⟨⟨j,hj,rfl⟩,hne⟩:=hx;rw [q3w (by omega) (hl j)] at hne⊢
 split
 · rename_i h0;rw [if_pos h0] at hne;simp at hne
 exact ⟨_,_,rfl,hl j⟩
theorem q7z{m n:Nat}{c:List UInt8}(hn:n≤30):isTag m (tlv (tagB n) c)=decide (n=m):=by
 unfold isTag tlv;rw [Bk,q9O n hn];exact decide_eq_decide.2 (by omega)
theorem q9C{m:Nat}{x:List UInt8}{L:List (List UInt8)}:fndR m (x :: L)=if isTag m x then conR x else fndR m L:=by
 unfold fndR;rw [List.find?_cons];cases isTag m x<;>simp
theorem j2l{l:List (List UInt8)}{m:Nat}(hl:∀j,(l.getD j []).length≤16777215):∀ (k n:Nat),m<n→n+k≤31→fndR m (wrapsL l n k)= []
 |0,n,_,_=>rfl
 |k+1,n,h,hn=>by
  rw [q7W,q3w (n:=n) (by omega) (hl n)]
  have ih:=j2l (m:=m) hl k (n+1) (by omega) (by omega)
  by_cases h0:l.getD n []= []
  · rw [if_pos h0,if_pos rfl];exact ih
  rw [if_neg h0,if_neg (by simp [tlv]),q9C,q7z (n:=n) (by omega),decide_eq_false (show ¬n=m by omega)]
  exact ih
theorem j2y{l:List (List UInt8)}{m:Nat}(hl:∀j,(l.getD j []).length≤16777215):∀ (k n:Nat),n≤m→m<n+k→n+k≤31→fndR m (wrapsL l n k)=l.getD m []
 |0,n,_,_,_=>by omega
 |k+1,n,h,h2,hn=>by
  rw [q7W,q3w (n:=n) (by omega) (hl n)]
  by_cases e:n=m
  · subst e;by_cases h0:l.getD n []= []
    · rw [if_pos h0,if_pos rfl,j2l hl k (n+1) (by omega) (by omega),h0]
    rw [if_neg h0,if_neg (by simp [tlv]),q9C,q7z (n:=n) (by omega),decide_eq_true (show n=n from rfl),if_pos rfl,conR_tlv' _ _ (hl n)]
  have ih:=j2y (m:=m) hl k (n+1) (by omega) (by omega) (by omega)
  by_cases h0:l.getD n []= []
  · rw [if_pos h0,if_pos rfl];exact ih
  rw [if_neg h0,if_neg (by simp [tlv]),q9C,q7z (n:=n) (by omega),decide_eq_false e]
  exact ih
theorem q2h{l:List (List UInt8)}{m k:Nat}(hl:∀j,(l.getD j []).length≤16777215)(hk:k≤31)(hm:m<k)(hs:(sufS l 0 k).length≤16777215):itmR (tlv 48 (sufS l 0 k)) m=l.getD m []:=by
 unfold itmR;rw [conR_tlv' _ _ hs,z9I hl (by omega)]
 exact j2y hl k 0 (Ak _) (by omega) (by omega)
theorem z0t{v:Int}(h:0≤v∧v<36028797018963968):(gIntR (intS v):Int)=v:=by
 obtain ⟨c,h1,h2,_,_,h5,h6⟩:=q6F (v:=v) (by omega)
 unfold gIntR;rw [h1,conR_tlv' _ _ (by omega)]
 have h7:c.length≤7:=by
  rcases AC c.length 8 with q|q
  · omega
  have:=h6 (by omega);omega
 rw [Aa h7];exact h5
theorem j0t{n:Nat}(h:n≤1099511627776):gIntR (timeS n)=n:=by
 unfold gIntR;rw [q5u (by omega),conR_tlv' _ _ (by rw [q0F];omega),Aa (by rw [q0F];omega),q9A n 6 (by omega),AI (by omega)]
def eltR(x:List UInt8):List (List UInt8):=elsR (conR x).length (conR x)
def sR(x:List UInt8):ByteArray:=⟨(conR x).toArray⟩
def prnR(x:List UInt8):Prin:=((eltR (itmR x 0)).map sR,sR (itmR x 1))
def keyR(x:List UInt8):Key:=((gIntR (itmR x 0):Int),(gIntR (itmR x 1):Int),conR (itmR x 2))
def nmsR(x:List UInt8):List Prin:=(eltR x).map prnR
theorem j0f:eltR []= []:=by decide
theorem z1X{t:Ty}{w:t.den→List UInt8}{l:List t.den}(h:∀x∈l,isEl (w x))(hb:(l.map w).flatten.length≤16777215):eltR (listS w l)=l.map w:=by
 by_cases h0:l.length=0
 · have:l= []:=A2.1 h0;subst this;have e:listS w ([]:List t.den)= []:=by unfold listS;exact if_pos rfl
   rw [e,j0f];rfl
 have e:listS w l=tlv 48 (l.map w).flatten:=by unfold listS mapN;rw [if_neg h0,AA,q1F hb]
 unfold eltR;rw [e,conR_tlv' _ _ hb,q5f _ (fun x hx=>by obtain ⟨s,hs,rfl⟩:=Bl.1 hx;exact h s hs)]
theorem q9o{α β:Type}{f:β→α}{w:α→β}{l:List α}(h:∀x∈l,f (w x)=x):(l.map w).map f=l:=by
 rw [BO]
 conv=>rhs;rw [←List.map_id l]
 exact BM fun x hx=>h x hx
theorem z4i{s:ByteArray}(h:s.size≤16777215):sR (elemS 27 [s.data.toList])=s∧isEl (elemS 27 [s.data.toList]):=by
 have hl:s.data.toList.length=s.size:=by simp
 rw [q1L (by omega)]
 refine ⟨?_,_,_,rfl,by omega⟩
 unfold sR;rw [conR_tlv' _ _ (by omega)]
theorem z0v{p:Prin}(h:vPrin p=true):prnR (prinE p)=p∧isEl (prinE p):=by
 obtain ⟨h1,h2,h3⟩:=q5d h;have he:prinE p=prinS p:=by unfold prinE;rw [if_pos h]
 rw [he];obtain ⟨xs,t⟩:=p;have h1':xs.length≤4:=h1;have h2':∀x∈xs,x.size≤32:=h2;have h3':t.size≤32:=h3;obtain ⟨g1,g2⟩:=z1C xs t (by omega) (fun x hx=>by have:=h2' x hx;omega) (by omega)
 have hS:prinS (xs,t)=tlv 48 (sufS [elemS 48 (strsN xs xs.length),strE t] 0 2):=by
  show elemS 48 [wrapS 160 0 (elemS 48 (strsN xs xs.length)),wrapS 160 1 (strE t)]=_;have e:([wrapS 160 0 (elemS 48 (strsN xs xs.length)),wrapS 160 1 (strE t)]:List (List UInt8)).flatten=sufS [elemS 48 (strsN xs xs.length),strE t] 0 2:=by
   rw [q0S,q0S];simp [sufS]
  rw [q1F (by rw [e];omega),e]
 have e0:strsN xs xs.length=xs.map strE:=by unfold strsN strE;rw [AA]
 have hb:(xs.map strE).flatten.length≤148:=by have:=q8S (k:=xs.length) h1' h2';rwa [e0] at this
 have e1:elemS 48 (strsN xs xs.length)=tlv 48 (xs.map strE).flatten:=by rw [e0,q1F (by omega)]
 have l1:=q9Q t;have hL:∀j,(([elemS 48 (strsN xs xs.length),strE t]:List (List UInt8)).getD j []).length≤16777215:=fun j=>by
  match j with
  |0=>
   show (elemS 48 (strsN xs xs.length)).length≤_;rw [e1,q1p];have:=q6T (xs.map strE).flatten.length;omega
  |1=>show (strE t).length≤_;omega
  |j+2=>exact Ak _
 rw [hS];refine ⟨?_,_,_,rfl,by omega⟩
 unfold prnR;rw [q2h (m:=0) hL (by omega) (by omega) (by omega),q2h (m:=1) hL (by omega) (by omega) (by omega)]
 have e2:([elemS 48 (strsN xs xs.length),strE t]:List (List UInt8)).getD 0 []=tlv 48 (xs.map strE).flatten:=e1;have e3:([elemS 48 (strsN xs xs.length),strE t]:List (List UInt8)).getD 1 []=strE t:=rfl;rw [e2,e3];have hel:∀x∈xs,sR (strE x)=x∧isEl (strE x):=fun x hx=>z4i (by have:=h2' x hx;omega)
 unfold eltR;rw [conR_tlv' _ _ (by omega),q5f _ (fun x hx=>by obtain ⟨s,hs,rfl⟩:=Bl.1 hx;exact (hel s hs).2),q9o (f:=sR) (w:=strE) (fun x hx=>(hel x hx).1)]
 exact congrArg (Prod.mk xs) (z4i (by omega)).1
theorem z3O{k:Key}(h:keyOk k):keyR (keyS k)=k∧isEl (keyS k):=by
 obtain ⟨a,v,c⟩:=k;obtain ⟨ha,hv,hc⟩:=h;have i1:=q1a a;have i2:=q1a v;have e3:elemS 4 [c]=tlv 4 c:=q1L (by omega)
 have w3:=q0v 4 [c];simp only [Aq,AB,Ai] at w3;have hL:∀j,(([intS a,intS v,elemS 4 [c]]:List (List UInt8)).getD j []).length≤16777215:=fun j=>by
  match j with
  |0=>show (intS a).length≤_;omega
  |1=>show (intS v).length≤_;omega
  |2=>show (elemS 4 [c]).length≤_;omega
  |j+3=>exact Ak _
 obtain ⟨hS,hin⟩:=q6R a v c ha hv hc;rw [hS];refine ⟨?_,_,_,rfl,hin⟩;unfold keyR;rw [q2h (m:=0) hL (by omega) (by omega) hin,q2h (m:=1) hL (by omega) (by omega) hin,q2h (m:=2) hL (by omega) (by omega) hin]
 have t0:([intS a,intS v,elemS 4 [c]]:List (List UInt8)).getD 0 []=intS a:=rfl;have t1:([intS a,intS v,elemS 4 [c]]:List (List UInt8)).getD 1 []=intS v:=rfl;have t2:([intS a,intS v,elemS 4 [c]]:List (List UInt8)).getD 2 []=tlv 4 c:=e3;rw [t0,t1,t2,z0t (by omega),z0t (by omega),conR_tlv' _ _ (by omega)]
theorem z9M{l:List Prin}(hl:l.length≤16)(hv:∀p∈l,vPrin p=true):nmsR (listS (t:=PrinT) prinE l)=l:=by
 have hf:=flat_len prinE 205 l fun x hx=>(q4m (hv x hx)).2.1;have h4:205*l.length≤205*16:=Bd _ hl;unfold nmsR;rw [z1X (t:=PrinT) (w:=prinE) (fun x hx=>(z0v (hv x hx)).2) (by omega)]
 exact q9o (f:=prnR) (w:=prinE) fun x hx=>(z0v (hv x hx)).1
def intsG(b:List UInt8):List Int:=(eltR b).map fun x=>(gIntR x:Int)
def pacG(b:List UInt8):Pac:=(prnR (itmR b 0),(gIntR (itmR b 1):Int),(gIntR (itmR b 2):Int),intsG (itmR b 3),nmsR (itmR b 4))
theorem j5O{v:Int}(h:0≤v∧v≤4611686018427387904):isEl (intS v):=by
 obtain ⟨c,e,hc,_⟩:=q6F h;exact ⟨_,_,e,by omega⟩
theorem z8w{l:List Int}(hl:l.length≤64)(hv:∀x∈l,0≤x∧x≤2147483647):intsG (listS (t:=I64) intS l)=l:=by
 have hf:=flat_len intS 14 l fun x _=>q1a x;have h4:14*l.length≤14*64:=Bd _ hl;unfold intsG;rw [z1X (t:=I64) (w:=intS) (fun x hx=>j5O ⟨(hv x hx).1,Cv (hv x hx).2 (by decide)⟩) (by omega)]
 exact q9o (f:=fun x=>((gIntR x:Nat):Int)) (w:=intS) fun x hx=>z0t ⟨(hv x hx).1,Int.lt_of_le_of_lt (hv x hx).2 (by decide)⟩
theorem j0j{p:Pac}(h:vPac p=true):pacG (pacS p)=p∧isEl (pacS p):=by
 obtain ⟨hS,hL,hs,_⟩:=z4y p h;have hs':(sufS (pacL p) 0 5).length≤16777215:=by omega
 rw [hS];refine ⟨?_,_,_,rfl,hs'⟩;unfold pacG;rw [q2h (m:=0) (k:=5) hL (by omega) (by omega) hs',q2h (m:=1) (k:=5) hL (by omega) (by omega) hs',q2h (m:=2) (k:=5) hL (by omega) (by omega) hs',q2h (m:=3) (k:=5) hL (by omega) (by omega) hs',q2h (m:=4) (k:=5) hL (by omega) (by omega) hs']
 clear hS hL hs hs';obtain ⟨c,a,u,g,w⟩:=p;simp only [vPac,Aj,decide_eq_true_eq,A3] at h;obtain ⟨hc,ha,hu,hg1,hw1,hg,hw⟩:=h;change Int at a u;change List Int at g;change List Prin at w;have hg1:(g.length:Int)≤64:=hg1;have hw1:(w.length:Int)≤16:=hw1;obtain ⟨a,rfl,ga⟩:=j2d (show (0:Int)≤a∧a≤1099511627776 by simpa only [vTime,mIn,Aj,decide_eq_true_eq] using ha)
 have hu2:=z7m hu;show (prnR (prinE c),((gIntR (timeS (a:Int)):Nat):Int),((gIntR (intS u):Nat):Int),intsG (listS (t:=I64) intS g),nmsR (listS (t:=PrinT) prinE w))=_;rw [(z0v hc).1,j0t ga,z0t ⟨hu2.1,Int.lt_of_le_of_lt hu2.2 (by decide)⟩,z8w (by omega) (j2k hg),z9M (by omega) hw]
def decPcR(b:List UInt8):Option Pac:=if vPac (pacG b)=true∧pacS (pacG b)=b then some (pacG b) else none
theorem z9w(b:List UInt8):decPcR b=decPc b:=by
 unfold decPcR;split
 · rename_i h;have:=z4x h.1;rw [h.2] at this;exact this.symm
 rename_i h;cases hd:decPc b with
 |none=>rfl
 |some f=>
  exfalso;obtain ⟨h1,h2⟩:=q6x hd;have h4:pacG b=f:=by rw [←h2];exact (j0j h1).1
  rw [h4] at h;exact h ⟨h1,h2⟩
def sgdG(b:List UInt8):Key×Key:=(keyR (itmR b 1),keyR (itmR b 2))
def sgnR(y:List UInt8)(f g:Key):List UInt8:=elemS 48 [wrapS 160 0 y,wrapS 160 1 (keyS f),wrapS 160 2 (keyS g)]
def decSgR(b:List UInt8):Option Sgd:=match decPc (itmR b 0) with
 |none=>none
 |some p=>if vKey (sgdG b).1=true∧vKey (sgdG b).2=true∧sgnR (itmR b 0) (sgdG b).1 (sgdG b).2=b then some (p,sgdG b) else none
theorem j0J{x:Sgd}(h:vSgn x=true):itmR (sgnS x) 0=pacS x.1∧sgdG (sgnS x)=x.2:=by
 obtain ⟨hS,hL,hs,_⟩:=j2f x h;have hs':(sufS (sgnL x) 0 3).length≤16777215:=by omega
 simp only [vSgn,Aj] at h;rw [hS];unfold sgdG;rw [q2h (m:=0) (k:=3) hL (by omega) (by omega) hs',q2h (m:=1) (k:=3) hL (by omega) (by omega) hs',q2h (m:=2) (k:=3) hL (by omega) (by omega) hs']
 refine ⟨rfl,?_⟩;show (keyR (keyS x.2.1),keyR (keyS x.2.2))=_;rw [(z3O (q6v h.2.1)).1,(z3O (q6v h.2.2)).1]
theorem z8B(b:List UInt8):decSgR b=decSg b:=by
 unfold decSgR;cases hd:decSg b with
 |some x=>
  obtain ⟨h1,h2⟩:=q8Z hd;have hb:=j0J h1;rw [h2] at hb;have h1':=h1;simp only [vSgn,Aj] at h1';rw [hb.1,hb.2,z4x h1'.1];dsimp only;rw [if_pos ⟨h1'.2.1,h1'.2.2,h2⟩]
 |none=>
  cases hp:decPc (itmR b 0) with
  |none=>rfl
  |some p=>
   dsimp only;rw [if_neg];rintro ⟨h1,h2,h3⟩;obtain ⟨g1,g2⟩:=q6x hp;have hv:vSgn (p,sgdG b)=true:=by
    unfold vSgn;rw [show (p,sgdG b).1=p from rfl,g1,h1,h2]
    rfl
   have:=z0o hv;rw [show sgnS (p,sgdG b)=sgnR (pacS p) (sgdG b).1 (sgdG b).2 from rfl,g2,h3,hd] at this
   cases this
theorem z7a(b:List UInt8)(hb:b.length≤1048576):PC Tryz.prog 115 [.isl .u8 b] (.agg (KeyT.cells (keyR b))):=by
 have q0:=q1s b 0;have q1:=q1s b 1;have q2:=q1s b 2;refine q0f rfl rfl ?_;refine rQ fi115 ?_;refine cQ (q3o b 0 (by omega) (by omega)) ?_
 refine cQ (q5J _ (by omega)) ?_
 refine cQ (q3o b 1 (by omega) (by omega)) ?_
 refine cQ (q5J _ (by omega)) ?_
 refine cQ (q3o b 2 (by omega) (by omega)) ?_
 refine cQ (z5q _ (by omega)) ?_
 exact ⟨rfl,rfl,rfl⟩
def srN(l:List (List UInt8))(i:Nat):List ByteArray:=(l.take i).map sR
theorem z9Q{l:List (List UInt8)}{i:Nat}(h:i<l.length):srN l (i+1)=srN l i++ [sR (l.getD i (Ty.slice .u8).dflt)]:=by unfold srN;rw [q0Y (d:=(Ty.slice .u8).dflt) h];simp
theorem j4P{l:List (List UInt8)}{i:Nat}(h:i≤l.length):(srN l i).length=i:=by simp [srN];omega
theorem z8R(x:List UInt8):(sR x).size≤x.length:=by
 have:=q2o x;unfold sR;show (conR x).toArray.size≤_;simpa using this
theorem q8Q(b:List UInt8)(hb:b.length≤1048576):PC Tryz.prog 72 [.isl .u8 b] (.agg (PrinT.cells (prnR b))):=by
 have q0:=q1s b 0;have q1:=q1s b 1;have hc:=q1D (itmR b 0) (by omega)
 have hl:=q2o (itmR b 0);have he:=q4i (conR (itmR b 0)) (by omega)
 have hm:=q3M (conR (itmR b 0)).length (conR (itmR b 0));have hle:=q4D (conR (itmR b 0)).length (conR (itmR b 0));have hd:prnR b=((elsR (conR (itmR b 0)).length (conR (itmR b 0))).map sR,sR (itmR b 1)):=rfl;rw [hd];clear hd;generalize elsR (conR (itmR b 0)).length (conR (itmR b 0))=l at*;refine q0f rfl rfl ?_;refine rQ fi72 ?_;refine cQ (q3o b 0 (by omega) (by omega)) ?_
 refine cQ hc ?_;refine cQ he ?_;refine q1E 1 0 .str rfl rfl rfl ?_;with_reducible refine sxE ?_
 refine q0i (ι:=Nat×List SObj) (fun s=>[(5,rI s.1)]) (fun s=>[.cells 24 [.raw (.slice none 0 0),rS ⟨#[]⟩],.cells 24 [.bld (s.2.length+2) .str (srN l s.1).length,rS ⟨#[]⟩]]++s.2++ [.row .str (srN l s.1)]) (fun s=>l.length-s.1) (fun s=>s.1≤l.length) (0,[]) (Ak _) rfl ?_ ?_
 · with_reducible refine sxE ?_;trivial
 rintro ⟨i,G⟩ hi;dsimp only at hi;have hwr:=wsx i (by omega)
 have hln:=j4P hi;refine uQ 12 _ ?_;with_reducible refine sxaE ?_
 refine ⟨fun hlt=> ?_,fun hge=> ?_⟩
 · have hmm:=hm _ (q0O (d:=(Ty.slice .u8).dflt) hlt);have hst:=z9Q hlt;have hsz:=z8R (l.getD i (Ty.slice .u8).dflt);refine q2t [1] mixed ?_;refine aQ ?_;refine ⟨⟨by omega,hlt⟩,q0d (q1D _ (by omega)) ?_⟩
   refine aQ ?_


   refine ⟨by show (sR _).size≤_;omega,⟨by omega,by omega⟩,(i+1,G++ [.dead,.row .str [sR (l.getD i (Ty.slice .u8).dflt)]]),by dsimp only;omega,by dsimp only;omega,?_,?_⟩
   · simp [hst];rfl
   with_reducible refine sya1 hwr ?_;trivial
 obtain rfl:i=l.length:=by omega
 refine aQ ?_;refine q0a (q3o b 1 (by omega) (by omega)) ?_
 refine aQ ?_;refine q0a (q1D _ (by omega)) ?_
 refine aQ ?_;exact ⟨⟨Ag _,by omega⟩,by rw [AA];unfold srN;rw [AA],rfl⟩
def pnN(l:List (List UInt8))(i:Nat):List Prin:=(l.take i).map prnR
theorem j0r{l:List (List UInt8)}{i:Nat}(h:i<l.length):pnN l (i+1)=pnN l i++ [prnR (l.getD i (Ty.slice .u8).dflt)]:=by unfold pnN;rw [q0Y (d:=(Ty.slice .u8).dflt) h];simp
theorem j4o{l:List (List UInt8)}{i:Nat}(h:i≤l.length):(pnN l i).length=i:=by simp [pnN];omega
theorem j3D(l:List (List UInt8)):pnN l l.length=l.map prnR:=by unfold pnN;rw [AA]
set_option maxHeartbeats 40000000
theorem j3V(c c':Prin)(a a' u u':Int)(g g':List Int)(w w':List Prin):decide (((c,a,u,g,w):Pac)=(c',a',u',g',w'))=(decide (g.length=g'.length) && (decide (w.length=w'.length) && (allN g.length (eqAt g g' (Ty.dflt I64)) && (allN w.length (eqAt w w' PrinT.dflt) && (decide (c=c') && (decide (a=a') && decide (u=u'))))))):=by
 have k1:=sameN g g' (Ty.dflt I64);have k2:=sameN w w' PrinT.dflt;rw [Bv];simp only [decide_eq_true_eq,Aj,Prod.mk.injEq];constructor
 · rintro ⟨h1,h2,h3,h4,h5⟩;have h4:=k1.1 h4;have h5:=k2.1 h5;exact ⟨h4.1,h5.1,h4.2,h5.2,h1,h2,h3⟩
 rintro ⟨h1,h2,h3,h4,h5,h6,h7⟩;exact ⟨h5,h6,h7,k1.2 ⟨h1,h3⟩,k2.2 ⟨h2,h4⟩⟩
theorem q8R(p q:Pac)(ho:PacT.ok p):PC Tryz.prog 18 [.agg (PacT.cells p),.agg (PacT.cells q)] (rB (decide (p=q))):=by
 obtain ⟨c,a,u,g,w⟩:=p;obtain ⟨c',a',u',g',w'⟩:=q;obtain ⟨o1,_,_,o4,o5⟩:=ho;have hgl:List.length g≤1125899906842624:=o4.1;have hwl:List.length w≤1125899906842624:=o5.1;rw [show rB (decide (((c,a,u,g,w):Pac)=(c',a',u',g',w')))=_ from congrArg (fun b=>rB b) (j3V c c' a a' u u' g g' w w')]
 refine q0p rfl rfl ?_;refine rQ fi18 ?_;refine ⟨fun h1=>⟨fun h2=> ?_,fun h2=> ?_⟩,fun h1=> ?_⟩
 · rw [decide_eq_false (show ¬List.length w=List.length w' by omega),AR,BH]
 rotate_left
 · rw [decide_eq_false (show ¬List.length g=List.length g' by omega),AR]
 have hlg:List.length g=List.length g':=by omega
 have hlw:List.length w=List.length w':=by omega
 rw [decide_eq_true hlg,decide_eq_true hlw,AE,AE];refine q0R (fun i=>[(5,.raw (.int .i64 ((i:Nat):Int)))]) (List.length g) (fun j=>(eqAt g g' (Ty.dflt I64)) j=true) (by first|decide|simp) (fun i=>rfl) ?_ fun i hi hall=> ?_
 · (with_reducible refine sxE ?_<;>try exact True.intro)
   all_goals (try rfl)
 have hwr:=wsx i (by omega)
 refine gQ ?_;have bad:i< (List.length g)→(eqAt g g' (Ty.dflt I64)) i=false→allN (List.length g) (eqAt g g' (Ty.dflt I64))=false:=fun hlt hv=>q0o hlt hv;have fin:¬i< (List.length g)→allN (List.length g) (eqAt g g' (Ty.dflt I64))=true:=fun h=>q0u fun j hj=>hall j (by omega)
 try dsimp only at bad fin hall
 have hgd:eqAt g g' (Ty.dflt I64) i=decide (g.getD i (Ty.dflt I64)=g'.getD i (Ty.dflt I64)):=rfl;refine ⟨fun hlt=>⟨⟨by omega,hlt⟩,⟨by omega,by omega⟩,fun h=> ?_,fun h=>⟨hlt,q0X hall ?_,⟨[],rfl⟩,?_⟩⟩,fun hge=> ?_⟩
 · rw [bad hlt (hgd.trans (decide_eq_false h)),AR]
 · exact hgd.trans (decide_eq_true h)
 · with_reducible refine sx1 hwr ?_;trivial
 rw [fin hge,AE];clear hall bad fin hgd;refine q0R (fun k=>[(6,.raw (.int .i64 ((k:Nat):Int)))]) (List.length w) (fun j=>(eqAt w w' PrinT.dflt) j=true) (by first|decide|simp) (fun i=>rfl) ?_ fun k hik hallk=> ?_
 · (with_reducible refine sxE ?_<;>try exact True.intro)
   all_goals (try rfl)
 have hwrk:=wsx k (by omega)
 refine gQ ?_;have badk:k< (List.length w)→(eqAt w w' PrinT.dflt) k=false→allN (List.length w) (eqAt w w' PrinT.dflt)=false:=fun hlt hv=>q0o hlt hv;have fink:¬k< (List.length w)→allN (List.length w) (eqAt w w' PrinT.dflt)=true:=fun h=>q0u fun j hj=>hallk j (by omega)
 try dsimp only at badk fink hallk
 have hgd:eqAt w w' PrinT.dflt k=decide (w.getD k PrinT.dflt=w'.getD k PrinT.dflt):=rfl;refine ⟨fun hlt=>⟨⟨by omega,hlt⟩,⟨by omega,by omega⟩,q0d (j5X (w.getD k PrinT.dflt) (w'.getD k PrinT.dflt) (o5.2 _ (q0O hlt))) ?_⟩,fun hge=>q0a (j5X c c' o1) ?_⟩
 · cases hn:decide (w.getD k PrinT.dflt=w'.getD k PrinT.dflt) with
   |false=>
    refine gQ ?_;rw [badk hlt (hgd.trans hn),AR]
   |true=>
    refine gQ ?_;refine ⟨hlt,q0X hallk (hgd.trans hn),⟨[],rfl⟩,?_⟩;with_reducible refine sx1 hwrk ?_;trivial
 rw [fink hge,AE];refine gQ ?_;exact ⟨fun e1=>⟨fun e2=>by rw [decide_eq_true e1,decide_eq_true e2,AE,AE],fun e2=>by rw [decide_eq_false e2,AR,BH]⟩,fun e1=>by rw [decide_eq_false e1,AR]⟩
end Go.Proofs.YtmapiojgmbgbgaaGreatDoor
