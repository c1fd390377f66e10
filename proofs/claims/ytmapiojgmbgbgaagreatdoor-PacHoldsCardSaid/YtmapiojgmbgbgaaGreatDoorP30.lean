/- Authorisation data: the law's own functions; what a signature is verified with. -/
import Derived.Test.YtmapiojgmbgbgaaGreatDoorP29
set_option linter.all false
namespace Go.Proofs.YtmapiojgmbgbgaaGreatDoor
open Go Go.Sx Go.Proofs
set_option maxRecDepth 100000
set_option maxHeartbeats 40000000
theorem q0S(e:Int):PC Tryz.prog 17 [rI e] (rI e):=by
 refine q0w rfl rfl ?_;refine rQ fi17 ?_;trivial
theorem j1j(c:UInt8)(n:Nat)(hn:n≤1048576):PC Tryz.prog 25 [.raw (.int .u8 c.toNat),rI n] (.isl .u8 (List.replicate n c)):=by
 refine q0f rfl rfl ?_;refine rQ fi25 ?_;refine q2I 5 .u8 (fun i=>List.replicate i c) (fun i=>[(6,rI i)]) n (fun _=>True) rfl (by simp) (by simp) rfl (fun i=>rfl) ?_ fun i hi _=> ?_
 · with_reducible refine sxE ?_;trivial
 have hwr:=wsx i (by omega)
 have hl:(List.replicate i c).length=i:=BO;refine gy1 hl ?_;refine ⟨fun hlt=> ?_,fun hge=> ?_⟩
 · have hst:List.replicate (i+1) c=List.replicate i c++ [c]:=Cw;refine ⟨by rw [CL],⟨by omega,by omega⟩,q1C [_,_] [] hlt trivial (by rw [hst,CL];rfl) ?_⟩
   simp (maxSteps:=3000000) only [hwr,hl,BO,go_sem,↓zA,↓reduceIte,↓reduceDIte] <;>try simp only [zB]
 obtain rfl:i=n:=by omega
 refine ⟨⟨Ag _,by omega⟩,Aa (by omega)⟩
def strAt(l:List ByteArray)(j:Nat):Bool:=decide ((l.getD j ByteArray.empty).size≤40)
def shortB(p:Prin):Bool:=allN p.1.length (strAt p.1) && (decide ((p.1.length:Int)≤6) && decide ((p.2.size:Int)≤40))
theorem q9G(p:Prin)(ho:PrinT.ok p):PC Tryz.prog 26 [.agg (PrinT.cells p)] (rB (shortB p)):=by
 obtain ⟨l,r⟩:=p;have hl:l.length≤1125899906842624:=ho.1.1;have hd:shortB (l,r)=(allN l.length (strAt l) && (decide ((l.length:Int)≤6) && decide ((r.size:Int)≤40))):=rfl;rw [hd];refine q0w rfl rfl ?_;refine rQ fi26 ?_;refine q0I (fun i=>[(3,.raw (.int .i64 ((i:Nat):Int)))]) (l.length) (fun j=>(strAt l) j=true) (by first|decide|simp) (fun i=>rfl) ?_ fun i hi hall=> ?_
 · (with_reducible refine sxE ?_<;>try exact True.intro)
   all_goals (try rfl)
 have hwr:=wsx i (by omega)
 refine gQ ?_;have bad:i< (l.length)→(strAt l) i=false→allN (l.length) (strAt l)=false:=fun hlt hv=>q0m hlt hv;have fin:¬i< (l.length)→allN (l.length) (strAt l)=true:=fun h=>q0r fun j hj=>hall j (by omega)
 try dsimp only at bad fin hall
 have hsd:strAt l i=decide ((l.getD i ByteArray.empty).size≤40):=rfl;refine ⟨fun hlt=>⟨⟨by omega,hlt⟩,fun h=> ?_,fun h=>⟨hlt,q0T hall ?_,⟨[],rfl⟩,?_⟩⟩,fun hge=> ?_⟩
 · rw [bad hlt (by rw [hsd];exact decide_eq_false (show ¬(l.getD i ByteArray.empty).size≤40 from fun h2=>by have h:40< (((l.getD i ByteArray.empty).size:Nat):Int):=h;omega)),AF]
 · rw [hsd];exact decide_eq_true (show (l.getD i ByteArray.empty).size≤40 from Nat.le_of_not_lt fun h2=>h (show (40:Int) < (((l.getD i ByteArray.empty).size:Nat):Int) by omega))
 · with_reducible refine sx1 hwr ?_;trivial
 rw [fin hge,AH];exact ⟨fun h=>by rw [decide_eq_true h,AH],fun h=>by rw [decide_eq_false h,AF]⟩
def viaAt(l:List Prin)(j:Nat):Bool:=shortB (l.getD j PrinT.dflt)
def smallP(p:Pac):Bool:=allN p.2.2.2.2.length (viaAt p.2.2.2.2) && (shortB p.1&& (decide ((p.2.2.2.1.length:Int)≤70) && decide ((p.2.2.2.2.length:Int)≤20)))
theorem z3O(p:Pac)(ho:PacT.ok p):PC Tryz.prog 9 [.agg (PacT.cells p)] (rB (smallP p)):=by
 obtain ⟨c,a,u,g,w⟩:=p;obtain ⟨o1,_,_,o4,o5⟩:=ho;have hd:smallP (c,a,u,g,w)=(allN w.length (viaAt w) && (shortB c&& (decide ((g.length:Int)≤70) && decide ((w.length:Int)≤20)))):=rfl;rw [hd];have hwl:List.length w≤1125899906842624:=o5.1;refine q0w rfl rfl ?_;refine rQ fi9 ?_;refine q0I (fun i=>[(3,.raw (.int .i64 ((i:Nat):Int)))]) (List.length w) (fun j=>(viaAt w) j=true) (by first|decide|simp) (fun i=>rfl) ?_ fun i hi hall=> ?_
 · (with_reducible refine sxE ?_<;>try exact True.intro)
   all_goals (try rfl)
 have hwr:=wsx i (by omega)
 refine gQ ?_;have bad:i< (List.length w)→(viaAt w) i=false→allN (List.length w) (viaAt w)=false:=fun hlt hv=>q0m hlt hv;have fin:¬i< (List.length w)→allN (List.length w) (viaAt w)=true:=fun h=>q0r fun j hj=>hall j (by omega)
 try dsimp only at bad fin hall
 have hsd:viaAt w i=shortB (w.getD i PrinT.dflt):=rfl;refine ⟨fun hlt=>⟨⟨by omega,hlt⟩,q0a (q9G (w.getD i PrinT.dflt) (o5.2 _ (q0K hlt))) ?_⟩,fun hge=> ?_⟩
 · cases hk:shortB (w.getD i PrinT.dflt) with
   |true=>
    refine gQ ?_;refine ⟨hlt,q0T hall (hsd.trans hk),⟨[],rfl⟩,?_⟩;with_reducible refine sx1 hwr ?_;trivial
   |false=>
    refine gQ ?_;rw [bad hlt (hsd.trans hk),AF]
 rw [fin hge,AH];refine q0a (q9G c o1) ?_;cases shortB c with
 |true=>
  refine gQ ?_;exact ⟨fun h=>by rw [decide_eq_true h,AH],fun h=>by rw [decide_eq_false h,AF]⟩
 |false=>
  refine gQ ?_;trivial
def keyAt(l:List Key)(j:Nat):Bool:=decide (((l.getD j KeyT.dflt).2.2.length:Int)≤100)
theorem j1Q(l:List Key)(hl:l.length≤1000):PC Tryz.prog 11 [.isl KeyT l] (rB (allN l.length (keyAt l))):=by
 refine q0w rfl rfl ?_;refine rQ fi11 ?_;refine q0I (fun i=>[(3,.raw (.int .i64 ((i:Nat):Int)))]) (l.length) (fun j=>(keyAt l) j=true) (by first|decide|simp) (fun i=>rfl) ?_ fun i hi hall=> ?_
 · (with_reducible refine sxE ?_<;>try exact True.intro)
   all_goals (try rfl)
 have hwr:=wsx i (by omega)
 refine gQ ?_;have bad:i< (l.length)→(keyAt l) i=false→allN (l.length) (keyAt l)=false:=fun hlt hv=>q0m hlt hv;have fin:¬i< (l.length)→allN (l.length) (keyAt l)=true:=fun h=>q0r fun j hj=>hall j (by omega)
 try dsimp only at bad fin hall
 have hsd:keyAt l i=decide (((l.getD i KeyT.dflt).2.2.length:Int)≤100):=rfl;refine ⟨fun hlt=>⟨⟨by omega,hlt⟩,fun h=> ?_,fun h=>⟨hlt,q0T hall ?_,⟨[],rfl⟩,?_⟩⟩,fun hge=> ?_⟩
 · rw [bad hlt (by rw [hsd];exact decide_eq_false (fun h2=>by have h:100< (((l.getD i KeyT.dflt).2.2.length:Nat):Int):=h;omega))]
 · rw [hsd];exact decide_eq_true (CQ.1 fun h2=>h h2)
 · with_reducible refine sx1 hwr ?_;trivial
 rw [fin hge]
theorem z9k(k:Key)(u:Nat)(x:List UInt8):fitK k (sigK k u x)=true:=by simp [fitK,sigK]
theorem q6k(k:Key)(u:Nat)(x:List UInt8):rightB k u x (sigK k u x)=true:=by
 unfold rightB;rw [z9k];simp [sigK]
theorem q8E{k:Key}(u:Nat)(x:List UInt8)(s:Key)(h:noK k=true):rightB k u x s=true:=by
 unfold rightB;rw [h,Cq]
theorem q2R{p:Pac}{s r s' r':Key}(hv:vPac p=true)(hs:vKey s=true)(hr:vKey r=true)(h1:s'=s∨noK s'=true)(h2:r'=r∨noK r'=true):vfyS (sgnS (signX p s r)) s' r'=(p,0):=by
 have a1:argK s'=true:=by
  unfold argK;rcases h1 with rfl|h
  · rw [hs,B7]
  rw [h,Cq]
 have a2:argK r'=true:=by
  unfold argK;rcases h2 with rfl|h
  · rw [hr,B7]
  rw [h,Cq]
 have hX:signX p s r=(p,sigK s 17 (pacS p),sigK r 18 (smS s 17 (pacS p))):=rfl;unfold vfyS;rw [a1,a2,Bp,if_pos rfl,z3W (z2P hv hs hr),hX];dsimp only;have e1:rightB s' 17 (pacS p) (sigK s 17 (pacS p))=true:=by
  rcases h1 with rfl|h
  · exact q6k _ _ _
  exact q8E _ _ _ h
 have e2:rightB r' 18 (sigK s 17 (pacS p)).2.2 (sigK r 18 (smS s 17 (pacS p)))=true:=by
  rcases h2 with rfl|h
  · exact q6k _ _ _
  exact q8E _ _ _ h
 rw [e1,if_pos rfl,e2,if_pos rfl]
set_option maxHeartbeats 4000000
def chkR(b:List UInt8)(a n:Nat):Option (Nat×Nat):=if b.length-a<n then none else some (a,a+n)
def fstR(b:List UInt8):Option (Nat×Nat):=
 if b.length<2 then none else
 if (b.getD 1 0).toNat<128 then chkR b 2 (b.getD 1 0).toNat else
 if (b.getD 1 0).toNat-128<1∨3< (b.getD 1 0).toNat-128∨b.length<2+ ((b.getD 1 0).toNat-128) then none else
 chkR b (2+ ((b.getD 1 0).toNat-128)) (beN ((b.drop 2).take ((b.getD 1 0).toNat-128)))
def fstV(b:List UInt8):SV:=match fstR b with
 |none=>.tup [rI 0,.isl .u8 [],rI 0]
 |some (a,e)=>.tup [rI (b.getD 0 0).toNat,.isl .u8 ((b.take e).drop a),rI e]
theorem z6Z(l:List UInt8)(h:l.length≤3):beN l<16777216:=by
 have h1:=q5j l;have h2:256^ l.length≤256^ 3:=A8 (by decide) h
 omega
theorem z3L(b:List UInt8)(hb:b.length≤1099511627776):PC Tryz.prog 140 [.isl .u8 b] (fstV b):=by
 have hx:(b.getD 1 Ty.u8.dflt).toNat<256:=BC _;have hd:b.getD 1 0=b.getD 1 Ty.u8.dflt:=rfl;have e0:IntKind.i64.wrap ((b.getD 1 Ty.u8.dflt).toNat:Int)=(((b.getD 1 Ty.u8.dflt).toNat:Nat):Int):=wrapi (by omega)
 have e1:IntKind.i64.wrap (((b.getD 1 Ty.u8.dflt).toNat:Int) -128)=((b.getD 1 Ty.u8.dflt).toNat:Int) -128:=wrapi (by omega)
 have e2:IntKind.i64.wrap (2+ (((b.getD 1 Ty.u8.dflt).toNat:Int) -128))=2+ (((b.getD 1 Ty.u8.dflt).toNat:Int) -128):=wrapi (by omega)
 have e3:IntKind.i64.wrap ((b.length:Int) -2)=(b.length:Int) -2:=wrapi (by omega)
 have e4:IntKind.i64.wrap (2+ ((b.getD 1 Ty.u8.dflt).toNat:Int))=2+ ((b.getD 1 Ty.u8.dflt).toNat:Int):=wrapi (by omega)
 have e5:IntKind.i64.wrap ((b.getD 0 Ty.u8.dflt).toNat:Int)=(((b.getD 0 Ty.u8.dflt).toNat:Nat):Int):=wrapi (by have:=(b.getD 0 Ty.u8.dflt).toNat_lt;omega)
 have hno:fstR b=none→fstV b= .tup [rI 0,.isl .u8 [],rI 0]:=fun h=>by unfold fstV;rw [h]
 have hyes:∀a e,fstR b=some (a,e)→fstV b= .tup [rI (b.getD 0 0).toNat,.isl .u8 ((b.take e).drop a),rI e]:=fun a e h=>by unfold fstV;rw [h]
 have hsc:(fstV b).clean=true:=by
  cases h:fstR b with
  |none=>rw [hno h];rfl
  |some y=>obtain ⟨a,e⟩:=y;rw [hyes a e h];rfl
 generalize fstV b=W at*;refine q0f rfl hsc ?_;refine q3H fi140 (q0y mixed 600 _ ?_);simp (maxSteps:=3000000) only [ir140,e0,e1,e2,e3,e4,e5,go_sem,↓zA,↓reduceIte,↓reduceDIte] <;>try simp only [zB]
 generalize hxx:b.getD 1 Ty.u8.dflt=x at*;have hF:∀r,fstR b=r→fstR b=r:=fun _ h=>h;have hno':fstR b=none→(SV.tup [SV.raw (Value.int IntKind.i64 0),SV.raw (Value.slice none 0 0),SV.raw (Value.int IntKind.i64 0)]).leV W:=fun h=>by
  rw [hno h];with_reducible refine sxE ?_;trivial
 refine ⟨fun h=> ?_,fun h=>⟨by omega,fun h2=>⟨fun h3=>⟨fun h4=>⟨fun h5=> ?_,fun h5=> ?_⟩,fun h4=> ?_⟩,fun h3=> ?_⟩,fun h2=>⟨fun h3=> ?_,fun h3=> ?_⟩⟩⟩
 · refine hno' ?_;unfold fstR;rw [if_pos (by omega)]
 · refine hno' ?_;unfold fstR;rw [hd,if_neg (by omega),if_neg (by omega),if_pos (by omega)]
 · obtain ⟨m,hxm⟩:∃m:Nat,(x.toNat:Int) -128=(m:Int):=⟨x.toNat-128,by omega⟩
   have hm3:1≤m∧m≤3:=by omega
   have hmn:x.toNat-128=m:=by omega
   rw [hxm];have hl2:(b.drop 2).length=b.length-2:=Ak;generalize hL:b.drop 2=L at*;have hgd:∀i,L.getD i Ty.u8.dflt=b.getD (2+i) Ty.u8.dflt:=fun i=>by
    rw [←hL,Ac,AG,Ac]
   have hfst:∀v,beN (L.take m)=v→fstR b=chkR b (2+m) v:=fun v hv=>by
    unfold fstR;rw [hd,hL,hmn,if_neg (by omega),if_neg (by omega),if_neg (by omega),hv]
   refine q0I (fun i=>[(5,rI (beN (L.take i))),(8,.raw (.int .i64 ((i:Nat):Int)))]) (m) (fun j=>(fun _=>true) j=true) (by first|decide|simp) (fun i=>rfl) ?_ fun i hi hall=> ?_
   · (with_reducible refine sxE ?_<;>try exact True.intro)
     all_goals (try rfl)
   have hwr:=wsx i (by omega)
   refine gQ ?_;have bad:i< (m)→(fun _=>true) i=false→allN (m) (fun _=>true)=false:=fun hlt hv=>q0m hlt hv;have fin:¬i< (m)→allN (m) (fun _=>true)=true:=fun h=>q0r fun j hj=>hall j (by omega)
   try dsimp only at bad fin hall
   refine ⟨fun hlt=> ?_,fun hge=> ?_⟩
   · have hi2:IntKind.i64.wrap (2+ (i:Int))=((2+i:Nat):Int):=by rw [wrapi (by omega)];omega
     have hv:=z6Z (L.take i) (by simp;omega)
     have hc:(b.getD (2+i) Ty.u8.dflt).toNat<256:=BC _;have w1:IntKind.i64.wrap (256* (beN (L.take i):Int))=256* (beN (L.take i):Int):=wrapi (by omega)
     have w2:IntKind.i64.wrap ((b.getD (2+i) Ty.u8.dflt).toNat:Int)=(((b.getD (2+i) Ty.u8.dflt).toNat:Nat):Int):=wrapi (by omega)
     have e6:=q4s L i (by omega)
     have e7:L.getD i 0=b.getD (2+i) Ty.u8.dflt:=hgd i;rw [e7] at e6;rw [hi2,BE,w1,w2];have w3:IntKind.i64.wrap (256* (beN (L.take i):Int)+ ((b.getD (2+i) Ty.u8.dflt).toNat:Int))=(beN (L.take (i+1)):Int):=by rw [wrapi (by omega),e6];omega
     rw [w3];refine ⟨⟨by omega,by omega⟩,hlt,trivial,⟨[],rfl⟩,?_⟩
     with_reducible refine sx1 hwr ?_;trivial
   obtain rfl:i=m:=by omega
   have hv:=z6Z (L.take i) (by simp;omega)
   generalize hV:beN (L.take i)=V at*;have hf:=hfst V rfl;have w1:IntKind.i64.wrap (2+ (i:Int))=((2+i:Nat):Int):=by rw [wrapi (by omega)];omega
   have w2:IntKind.i64.wrap (((2+i:Nat):Int)+ (V:Int))=((2+i+V:Nat):Int):=by rw [wrapi (by omega)];omega
   have w3:IntKind.i64.wrap ((b.length:Int) - ((2+i:Nat):Int))=(b.length:Int) - ((2+i:Nat):Int):=wrapi (by omega)
   rw [w1,w3,w2,e5];refine ⟨fun q=>hno' (by rw [hf];unfold chkR;rw [if_pos (by omega)]),fun q=>⟨by omega,⟨by omega,by omega,by omega⟩,?_⟩⟩
   rw [hyes (2+i) (2+i+V) (by rw [hf];unfold chkR;rw [if_neg (by omega)])]
   with_reducible refine sxE ?_
   rfl
 · refine hno' ?_;unfold fstR;rw [hd,if_neg (by omega),if_neg (by omega),if_pos (by omega)]
 · refine hno' ?_;unfold fstR;rw [hd,if_neg (by omega),if_neg (by omega),if_pos (by omega)]
 · refine hno' ?_;unfold fstR chkR;rw [hd,if_neg (by omega),if_pos (by omega),if_pos (by omega)]
 have hf:fstR b=some (2,2+x.toNat):=by unfold fstR chkR;rw [hd,if_neg (by omega),if_pos (by omega),if_neg (by omega)]
 rw [hyes _ _ hf];have ht:((2:Int)+ (x.toNat:Int)).toNat=2+x.toNat:=by omega
 rw [ht];refine ⟨by omega,⟨by omega,by omega⟩,?_⟩
 with_reducible refine sxE ?_
 exact ⟨rfl,congrArg (Value.int .i64) (by omega)⟩
def conR(b:List UInt8):List UInt8:=match fstR b with
 |none=>[]
 |some (a,e)=>(b.take e).drop a
theorem q7o{b:List UInt8}{a e:Nat}(h:fstR b=some (a,e)):2≤a∧a≤e∧e≤b.length:=by
 have key:∀a' n,chkR b a' n=some (a,e)→2≤a'→a'≤b.length→2≤a∧a≤e∧e≤b.length:=by
  intro a' n h1 h2 h3;unfold chkR at h1;split at h1
  · cases h1
  cases h1;omega
 unfold fstR at h;split at h
 · cases h
 split at h
 · exact key _ _ h (by omega) (by omega)
 split at h
 · cases h
 exact key _ _ h (by omega) (by omega)
theorem q2x(b:List UInt8):(conR b).length≤b.length:=by
 unfold conR;split
 · simp
 rw [Ak,Au];omega
theorem q1N(b:List UInt8)(hb:b.length≤1099511627776):PC Tryz.prog 75 [.isl .u8 b] (.isl .u8 (conR b)):=by
 have h:=z3L b hb;unfold fstV at h;unfold conR;refine q0f rfl rfl ?_;refine rQ fi75 ?_;refine q0a h ?_;cases hf:fstR b with
 |none=>
  refine gQ ?_;trivial
 |some y=>
  obtain ⟨a,e⟩:=y;refine gQ ?_;trivial
def elsR:Nat→List UInt8→List (List UInt8)
 |0,_=>[]
 |f+1,b=>match fstR b with
  |none=>[]
  |some (_,e)=>b.take e :: elsR f (b.drop e)
theorem q7b:∀ (f:Nat) (b:List UInt8),b.length≤f→elsR f b=elsR b.length b
 |0,b,h=>by
  have:b= []:=A0.1 (by omega)
  subst this;rfl
 |f+1,b,h=>by
  cases hb:b.length with
  |zero=>
   have:b= []:=A0.1 hb;subst this;simp [elsR,fstR]
  |succ n=>
   simp only [elsR];cases hf:fstR b with
   |none=>rfl
   |some y=>
    obtain ⟨a,e⟩:=y;have hle:=q7o hf;simp only;rw [q7b f (b.drop e) (by rw [Ak];omega),q7b n (b.drop e) (by rw [Ak];omega)]
theorem z6g{b:List UInt8}(h:fstR b=none):elsR b.length b= []:=by
 cases hb:b.length with
 |zero=>rfl
 |succ n=>simp only [elsR,h]
theorem z0X{b:List UInt8}{a e:Nat}(h:fstR b=some (a,e)):elsR b.length b=b.take e :: elsR (b.drop e).length (b.drop e):=by
 have hle:=q7o h;cases hb:b.length with
 |zero=>omega
 |succ n=>
  simp only [elsR,h];rw [q7b n (b.drop e) (by rw [Ak];omega)]
theorem q4m(b:List UInt8)(hb:b.length≤1048576):PC Tryz.prog 74 [.isl .u8 b] (.isl (.slice .u8) (elsR b.length b)):=by
 refine q0f rfl rfl ?_;refine rQ fi74 ?_;refine z0B 3 (.slice .u8) rfl rfl ?_;with_reducible refine sxE ?_
 refine q0s (ι:=List UInt8×List (List UInt8)×List SObj) (fun s=>[(0,.isl .u8 s.1),(3,.bld s.2.2.length (.slice .u8) s.2.1.length)]) (fun s=>s.2.2++ [.row (.slice .u8) s.2.1]) (fun s=>s.1.length) (fun s=>s.1.length≤b.length∧s.2.1.length+s.1.length≤b.length∧elsR b.length b=s.2.1++elsR s.1.length s.1) (b,[],[]) ⟨Ag _,by simp,rfl⟩ rfl ?_ ?_
 · with_reducible refine sxE ?_;trivial
 rintro ⟨r,acc,G⟩ ⟨h1,h2,h3⟩;dsimp only at h1 h2 h3;have hf:=z3L r (by omega)
 refine aQ ?_;refine q0a hf ?_;unfold fstV;cases hx:fstR r with
 |none=>
  rw [z6g hx,Aj] at h3;rw [h3];refine aQ ?_;exact ⟨⟨Ag _,by omega⟩,Az⟩
 |some y=>
  obtain ⟨a,e⟩:=y;have hle:=q7o hx;rw [z0X hx] at h3;refine aQ ?_;refine ⟨fun q=>by exfalso;omega,fun _=>⟨⟨by omega,by omega⟩,⟨by omega,by omega⟩,⟨by omega,by omega,Ag _⟩,?_⟩⟩
  rw [Az];have hl:(r.drop e).length=r.length-e:=Ak;refine ⟨(r.drop e,acc++ [r.take e],G++ [.dead,.row (.slice .u8) [r.take e]]),⟨?_,?_,?_⟩,?_,?_,?_⟩
  · dsimp only;omega
  · dsimp only;rw [List.length_append,hl];simp;omega
  · dsimp only;rw [h3,List.append_assoc];rfl
  · dsimp only;omega
  · simp
  with_reducible refine sxaE ?_;trivial
theorem q3u:∀ (f:Nat) (b:List UInt8),∀x∈elsR f b,2≤x.length∧x.length≤b.length
 |0,b,x,h=>by simp [elsR] at h
 |f+1,b,x,h=>by
  simp only [elsR] at h;cases hf:fstR b with
  |none=>rw [hf] at h;simp at h
  |some y=>
   obtain ⟨a,e⟩:=y;have hle:=q7o hf;rw [hf] at h;simp only [AZ] at h;rcases h with rfl|h
   · rw [Au];omega
   have:=q3u f (b.drop e) x h;rw [Ak] at this;omega
theorem q4l:∀ (f:Nat) (b:List UInt8),(elsR f b).length≤b.length
 |0,b=>by simp [elsR]
 |f+1,b=>by
  simp only [elsR];cases hf:fstR b with
  |none=>simp
  |some y=>
   obtain ⟨a,e⟩:=y;have hle:=q7o hf;have:=q4l f (b.drop e);rw [Ak] at this;simp only [AD];omega
def isTag(n:Nat)(x:List UInt8):Bool:=decide (((x.getD 0 0).toNat:Int)=160+ (n:Int))
def fndR(n:Nat)(l:List (List UInt8)):List UInt8:=match l.find? (isTag n) with
 |none=>[]
 |some x=>conR x
def itmR(b:List UInt8)(n:Nat):List UInt8:=fndR n (elsR (conR b).length (conR b))
theorem j3T{n:Nat}{l:List (List UInt8)}{i:Nat}(h:i<l.length)(hq:isTag n (l.getD i [])=true)(hn:∀j,j<i→isTag n (l.getD j [])=false):fndR n l=conR (l.getD i []):=by
 have:l.find? (isTag n)=some (l.getD i []):=by
  rw [List.find?_eq_some_iff_getElem];refine ⟨hq,i,h,by rw [Ac,Ab h];rfl,fun j hj=> ?_⟩
  have:=hn j hj;rw [Ac,Ab (by omega)] at this
  simpa using this
 unfold fndR;rw [this]
theorem j3c{n:Nat}{l:List (List UInt8)}(hn:∀j,j<l.length→isTag n (l.getD j [])=false):fndR n l= []:=by
 have:l.find? (isTag n)=none:=by
  rw [CF];intro x hx;obtain ⟨j,hj,rfl⟩:=AN hx;have:=hn j hj;rw [Ac,Ab hj] at this;simpa using this
 unfold fndR;rw [this]
theorem q2S(b:List UInt8)(n:Nat):(itmR b n).length≤b.length:=by
 unfold itmR fndR;split
 · simp
 rename_i x hx;have h1:=q3u _ _ x (List.mem_of_find?_eq_some hx);have h2:=q2x x;have h3:=q2x b;omega
theorem q7x(b:List UInt8)(n:Nat)(hn:n≤30)(hb:b.length≤1048576):PC Tryz.prog 58 [.isl .u8 b,rI n] (.isl .u8 (itmR b n)):=by
 have hl:=q2x b;have hc:=q1N b (by omega)
 have he:=q4m (conR b) (by omega)
 have hm:=q3u (conR b).length (conR b);have hle:=q4l (conR b).length (conR b);have hd:itmR b n=fndR n (elsR (conR b).length (conR b)):=rfl;rw [hd];generalize elsR (conR b).length (conR b)=l at*;refine q0f rfl rfl ?_;refine rQ fi58 ?_;refine cQ hc ?_;refine cQ he ?_;refine q0I (fun i=>[(6,.raw (.int .i64 ((i:Nat):Int)))]) (l.length) (fun j=>(fun j=> !isTag n (l.getD j [])) j=true) (by first|decide|simp) (fun i=>rfl) ?_ fun i hi hall=> ?_
 · (with_reducible refine sxE ?_<;>try exact True.intro)
   all_goals (try rfl)
 have hwr:=wsx i (by omega)
 refine gQ ?_;have bad:i< (l.length)→(fun j=> !isTag n (l.getD j [])) i=false→allN (l.length) (fun j=> !isTag n (l.getD j []))=false:=fun hlt hv=>q0m hlt hv;have fin:¬i< (l.length)→allN (l.length) (fun j=> !isTag n (l.getD j []))=true:=fun h=>q0r fun j hj=>hall j (by omega)
 try dsimp only at bad fin hall
 refine ⟨fun hlt=> ?_,fun hge=> ?_⟩
 · have hmm:=hm _ (q0K (d:=(Ty.slice .u8).dflt) hlt);have hx:=(List.getD (l.getD i (Ty.slice .u8).dflt) 0 Ty.u8.dflt).toNat_lt;have w1:IntKind.i64.wrap ((List.getD (l.getD i (Ty.slice .u8).dflt) 0 Ty.u8.dflt).toNat:Int)=(((List.getD (l.getD i (Ty.slice .u8).dflt) 0 Ty.u8.dflt).toNat:Nat):Int):=wrapi (by omega)
   have w2:IntKind.i64.wrap (160+ (n:Int))=160+ (n:Int):=wrapi (by omega)
   rw [w1,w2];refine ⟨⟨by omega,hlt⟩,by omega,fun q=>⟨⟨by omega,hlt⟩,q0a (q1N _ (by omega)) ?_⟩,fun q=> ?_⟩
   · have hq:isTag n (l.getD i [])=true:=decide_eq_true q;rw [j3T hlt hq (fun j hj=>by have:=hall j hj;simpa using this)]
     refine gQ ?_;rfl
   have hq:isTag n (l.getD i [])=false:=decide_eq_false q;refine ⟨hlt,q0T (fun j hj=>by have:=hall j hj;simpa using this) hq,⟨[],rfl⟩,?_⟩
   with_reducible refine sx1 hwr ?_;trivial
 rw [j3c (fun j hj=>by have:=hall j (by omega);simpa using this)]
def gIntR(b:List UInt8):Nat:=beN ((conR b).take 7)
theorem q8Y(b:List UInt8)(hb:b.length≤1099511627776):PC Tryz.prog 73 [.isl .u8 b] (rI (gIntR b)):=by
 have hc:=q1N b hb;unfold gIntR;generalize conR b=c at*;refine q0f rfl rfl ?_;refine rQ fi73 ?_;refine cQ hc ?_;refine q0I (fun i=>[(4,rI (beN (c.take i))),(5,.raw (.int .i64 ((i:Nat):Int)))]) (min c.length 7) (fun j=>(fun _=>true) j=true) (by first|decide|simp) (fun i=>rfl) ?_ fun i hi hall=> ?_
 · (with_reducible refine sxE ?_<;>try exact True.intro)
   all_goals (try rfl)
 have hwr:=wsx i (by omega)
 refine gQ ?_;have bad:i< (min c.length 7)→(fun _=>true) i=false→allN (min c.length 7) (fun _=>true)=false:=fun hlt hv=>q0m hlt hv;have fin:¬i< (min c.length 7)→allN (min c.length 7) (fun _=>true)=true:=fun h=>q0r fun j hj=>hall j (by omega)
 try dsimp only at bad fin hall
 refine ⟨fun h1=>⟨fun h2=>⟨⟨by omega,h1⟩,?_⟩,fun h2=> ?_⟩,fun h1=> ?_⟩
 · have hv:=q5j (c.take i);have hv2:256^ (c.take i).length≤256^ 6:=A8 (by decide) (by simp;omega)
   have hcc:(c.getD i Ty.u8.dflt).toNat<256:=BC _;have w1:IntKind.i64.wrap (256* (beN (c.take i):Int))=256* (beN (c.take i):Int):=wrapi (by omega)
   have w2:IntKind.i64.wrap ((c.getD i Ty.u8.dflt).toNat:Int)=(((c.getD i Ty.u8.dflt).toNat:Nat):Int):=wrapi (by omega)
   have e6:beN (c.take (i+1))=beN (c.take i)*256+ (c.getD i Ty.u8.dflt).toNat:=q4s c i h1;have w3:IntKind.i64.wrap (256* (beN (c.take i):Int)+ ((c.getD i Ty.u8.dflt).toNat:Int))=(beN (c.take (i+1)):Int):=by rw [wrapi (by omega),e6];omega
   rw [w1,w2,w3];refine ⟨by omega,trivial,⟨[],rfl⟩,?_⟩
   with_reducible refine sx1 hwr ?_;trivial
 · obtain rfl:i=7:=by omega
   rfl
 obtain rfl:i=c.length:=by omega
 rw [Az,Aa (by omega)]
theorem z8Q{b:List UInt8}(h:(meas b).2.2=0):fstR b=some ((meas b).1,(meas b).2.1):=by
 have key:∀a n,(measE b a n).2.2=0→chkR b a n=some ((measE b a n).1,(measE b a n).2.1):=by
  intro a n h1;unfold measE at h1⊢;unfold chkR;split at h1
  · cases h1
  rename_i hh;rw [if_neg hh,if_neg hh]
 unfold meas at h⊢;unfold fstR;split at h
 · cases h
 rename_i g1;rw [if_neg g1,if_neg g1];split at h
 · rename_i g2;rw [if_pos g2,if_pos g2];exact key _ _ h
 rename_i g2;rw [if_neg g2,if_neg g2];split at h
 · cases h
 rename_i g3;split at h
 · cases h
 rename_i g4;split at h
 · cases h
 rename_i g5;rw [if_neg (by omega),if_neg g3,if_neg g4,if_neg g5]
 exact key _ _ h
theorem z4Q(t:UInt8)(c r:List UInt8)(h:c.length≤16777215):fstR (tlv t c++r)=some (1+ (lenS c.length).length,(tlv t c).length):=by
 have hm:=q5e t c r h;rw [z8Q (by rw [hm]),hm,q1k]
theorem j0O(t:UInt8)(c r:List UInt8)(h:c.length≤16777215):conR (tlv t c++r)=c:=by
 have:=q7C t c r h;unfold takeC at this;rw [q5e t c r h] at this;unfold conR;rw [z4Q t c r h];simp only at this⊢;rw [q1k];exact this
theorem conR_tlv'(t:UInt8)(c:List UInt8)(h:c.length≤16777215):conR (tlv t c)=c:=by
 have:=j0O t c [] h;rwa [Aj] at this
def isEl(x:List UInt8):Prop:=∃t c,x=tlv t c∧c.length≤16777215
theorem q5v:∀ (L:List (List UInt8)),(∀x∈L,isEl x)→elsR L.flatten.length L.flatten=L
 | [],_=>rfl
 |x :: L,h=>by
  obtain ⟨t,c,rfl,hc⟩:=h x (by simp)
  have hf:=z4Q t c L.flatten hc;rw [Av,z0X hf,List.take_left,CE,q5v L fun y hy=>h y (by simp [hy])]
theorem z5D{l:List (List UInt8)}:(l.filter fun x=> !x.isEmpty).flatten=l.flatten:=by
 induction l with
 |nil=>rfl
 |cons x l ih=>
  cases x with
  |nil=>simp [ih]
  |cons a x=>simp [ih]
def wrapsL(l:List (List UInt8))(n k:Nat):List (List UInt8):=((List.range' n k).map fun j=>wrapS 160 (j:Nat) (l.getD j [])).filter fun x=> !x.isEmpty
theorem q7W(l:List (List UInt8))(n k:Nat):wrapsL l n (k+1)=if wrapS 160 (n:Nat) (l.getD n [])= [] then wrapsL l (n+1) k else wrapS 160 (n:Nat) (l.getD n []) :: wrapsL l (n+1) k:=by
 unfold wrapsL;rw [CP,AT,List.filter_cons];cases wrapS 160 (n:Nat) (l.getD n []) <;>simp
theorem z8U{l:List (List UInt8)}{n k:Nat}(hl:∀j,(l.getD j []).length≤16777215)(hn:n+k≤31):elsR (sufS l n k).length (sufS l n k)=wrapsL l n k:=by
 have:sufS l n k=(wrapsL l n k).flatten:=by unfold wrapsL sufS;rw [z5D]
 rw [this];refine q5v _ fun x hx=> ?_;unfold wrapsL at hx;simp only [List.mem_filter,Bi,List.mem_range'_1] at hx;obtain ⟨⟨j,hj,rfl⟩,hne⟩:=hx;rw [q3A (by omega) (hl j)] at hne⊢
 split
 · rename_i h0;rw [if_pos h0] at hne;simp at hne
 exact ⟨_,_,rfl,hl j⟩
theorem q7G{m n:Nat}{c:List UInt8}(hn:n≤30):isTag m (tlv (tagB n) c)=decide (n=m):=by
 unfold isTag tlv;rw [Bh,z0s n hn];exact decide_eq_decide.2 (by omega)
theorem q9E{m:Nat}{x:List UInt8}{L:List (List UInt8)}:fndR m (x :: L)=if isTag m x then conR x else fndR m L:=by
 unfold fndR;rw [List.find?_cons];cases isTag m x<;>simp
theorem j1s{l:List (List UInt8)}{m:Nat}(hl:∀j,(l.getD j []).length≤16777215):∀ (k n:Nat),m<n→n+k≤31→fndR m (wrapsL l n k)= []
 |0,n,_,_=>rfl
 |k+1,n,h,hn=>by
  rw [q7W,q3A (n:=n) (by omega) (hl n)]
  have ih:=j1s (m:=m) hl k (n+1) (by omega) (by omega)
  by_cases h0:l.getD n []= []
  · rw [if_pos h0,if_pos rfl];exact ih
  rw [if_neg h0,if_neg (by simp [tlv]),q9E,q7G (n:=n) (by omega),decide_eq_false (show ¬n=m by omega)]
  exact ih
theorem j1A{l:List (List UInt8)}{m:Nat}(hl:∀j,(l.getD j []).length≤16777215):∀ (k n:Nat),n≤m→m<n+k→n+k≤31→fndR m (wrapsL l n k)=l.getD m []
 |0,n,_,_,_=>by omega
 |k+1,n,h,h2,hn=>by
  rw [q7W,q3A (n:=n) (by omega) (hl n)]
  by_cases e:n=m
  · subst e;by_cases h0:l.getD n []= []
    · rw [if_pos h0,if_pos rfl,j1s hl k (n+1) (by omega) (by omega),h0]
    rw [if_neg h0,if_neg (by simp [tlv]),q9E,q7G (n:=n) (by omega),decide_eq_true (show n=n from rfl),if_pos rfl,conR_tlv' _ _ (hl n)]
  have ih:=j1A (m:=m) hl k (n+1) (by omega) (by omega) (by omega)
  by_cases h0:l.getD n []= []
  · rw [if_pos h0,if_pos rfl];exact ih
  rw [if_neg h0,if_neg (by simp [tlv]),q9E,q7G (n:=n) (by omega),decide_eq_false e]
  exact ih
theorem q4E{l:List (List UInt8)}{m k:Nat}(hl:∀j,(l.getD j []).length≤16777215)(hk:k≤31)(hm:m<k)(hs:(sufS l 0 k).length≤16777215):itmR (tlv 48 (sufS l 0 k)) m=l.getD m []:=by
 unfold itmR;rw [conR_tlv' _ _ hs,z8U hl (by omega)]
 exact j1A hl k 0 (Al _) (by omega) (by omega)
theorem z6c{v:Int}(h:0≤v∧v<36028797018963968):(gIntR (intS v):Int)=v:=by
 obtain ⟨c,h1,h2,_,_,h5,h6⟩:=q6C (v:=v) (by omega)
 unfold gIntR;rw [h1,conR_tlv' _ _ (by omega)]
 have h7:c.length≤7:=by
  rcases AB c.length 8 with q|q
  · omega
  have:=h6 (by omega);omega
 rw [Aa h7];exact h5
theorem z8X{n:Nat}(h:n≤1099511627776):gIntR (timeS n)=n:=by
 unfold gIntR;rw [q5d (by omega),conR_tlv' _ _ (by rw [q0B];omega),Aa (by rw [q0B];omega),q9U n 6 (by omega),AI (by omega)]
def eltR(x:List UInt8):List (List UInt8):=elsR (conR x).length (conR x)
def sR(x:List UInt8):ByteArray:=⟨(conR x).toArray⟩
def prnR(x:List UInt8):Prin:=((eltR (itmR x 0)).map sR,sR (itmR x 1))
def nmsR(x:List UInt8):List Prin:=(eltR x).map prnR
theorem j0l:eltR []= []:=by decide
theorem z1f{t:Ty}{w:t.den→List UInt8}{l:List t.den}(h:∀x∈l,isEl (w x))(hb:(l.map w).flatten.length≤16777215):eltR (listS w l)=l.map w:=by
 by_cases h0:l.length=0
 · have:l= []:=A0.1 h0;subst this;have e:listS w ([]:List t.den)= []:=by unfold listS;exact if_pos rfl
   rw [e,j0l];rfl
 have e:listS w l=tlv 48 (l.map w).flatten:=by unfold listS mapN;rw [if_neg h0,Az,q1M hb]
 unfold eltR;rw [e,conR_tlv' _ _ hb,q5v _ (fun x hx=>by obtain ⟨s,hs,rfl⟩:=Bi.1 hx;exact h s hs)]
theorem z0c{α β:Type}{f:β→α}{w:α→β}{l:List α}(h:∀x∈l,f (w x)=x):(l.map w).map f=l:=by
 rw [BK]
 conv=>rhs;rw [←List.map_id l]
 exact BI fun x hx=>h x hx
theorem z4K{s:ByteArray}(h:s.size≤16777215):sR (elemS 27 [s.data.toList])=s∧isEl (elemS 27 [s.data.toList]):=by
 have hl:s.data.toList.length=s.size:=by simp
 rw [q1Z (by omega)]
 refine ⟨?_,_,_,rfl,by omega⟩
 unfold sR;rw [conR_tlv' _ _ (by omega)]
theorem z0k{p:Prin}(h:vPrin p=true):prnR (prinE p)=p∧isEl (prinE p):=by
 obtain ⟨h1,h2,h3⟩:=q5i h;have he:prinE p=prinS p:=by unfold prinE;rw [if_pos h]
 rw [he];obtain ⟨xs,t⟩:=p;have h1':xs.length≤4:=h1;have h2':∀x∈xs,x.size≤32:=h2;have h3':t.size≤32:=h3;obtain ⟨g1,g2⟩:=z0R xs t (by omega) (fun x hx=>by have:=h2' x hx;omega) (by omega)
 have hS:prinS (xs,t)=tlv 48 (sufS [elemS 48 (strsN xs xs.length),strE t] 0 2):=by
  show elemS 48 [wrapS 160 0 (elemS 48 (strsN xs xs.length)),wrapS 160 1 (strE t)]=_;have e:([wrapS 160 0 (elemS 48 (strsN xs xs.length)),wrapS 160 1 (strE t)]:List (List UInt8)).flatten=sufS [elemS 48 (strsN xs xs.length),strE t] 0 2:=by
   rw [q1a,q1a];simp [sufS]
  rw [q1M (by rw [e];omega),e]
 have e0:strsN xs xs.length=xs.map strE:=by unfold strsN strE;rw [Az]
 have hb:(xs.map strE).flatten.length≤148:=by have:=q8y (k:=xs.length) h1' h2';rwa [e0] at this
 have e1:elemS 48 (strsN xs xs.length)=tlv 48 (xs.map strE).flatten:=by rw [e0,q1M (by omega)]
 have l1:=q9i t;have hL:∀j,(([elemS 48 (strsN xs xs.length),strE t]:List (List UInt8)).getD j []).length≤16777215:=fun j=>by
  match j with
  |0=>
   show (elemS 48 (strsN xs xs.length)).length≤_;rw [e1,q1k];have:=q6L (xs.map strE).flatten.length;omega
  |1=>show (strE t).length≤_;omega
  |j+2=>exact Al _
 rw [hS];refine ⟨?_,_,_,rfl,by omega⟩
 unfold prnR;rw [q4E (m:=0) hL (by omega) (by omega) (by omega),q4E (m:=1) hL (by omega) (by omega) (by omega)]
 have e2:([elemS 48 (strsN xs xs.length),strE t]:List (List UInt8)).getD 0 []=tlv 48 (xs.map strE).flatten:=e1;have e3:([elemS 48 (strsN xs xs.length),strE t]:List (List UInt8)).getD 1 []=strE t:=rfl;rw [e2,e3];have hel:∀x∈xs,sR (strE x)=x∧isEl (strE x):=fun x hx=>z4K (by have:=h2' x hx;omega)
 unfold eltR;rw [conR_tlv' _ _ (by omega),q5v _ (fun x hx=>by obtain ⟨s,hs,rfl⟩:=Bi.1 hx;exact (hel s hs).2),z0c (f:=sR) (w:=strE) (fun x hx=>(hel x hx).1)]
 exact congrArg (Prod.mk xs) (z4K (by omega)).1
theorem j0D{l:List Prin}(hl:l.length≤16)(hv:∀p∈l,vPrin p=true):nmsR (listS (t:=PrinT) prinE l)=l:=by
 have hf:=flat_len prinE 205 l fun x hx=>(q4g (hv x hx)).2.1;have h4:205*l.length≤205*16:=Ba _ hl;unfold nmsR;rw [z1f (t:=PrinT) (w:=prinE) (fun x hx=>(z0k (hv x hx)).2) (by omega)]
 exact z0c (f:=prnR) (w:=prinE) fun x hx=>(z0k (hv x hx)).1
def intsG(b:List UInt8):List Int:=(eltR b).map fun x=>(gIntR x:Int)
def pacG(b:List UInt8):Pac:=(prnR (itmR b 0),(gIntR (itmR b 1):Int),(gIntR (itmR b 2):Int),intsG (itmR b 3),nmsR (itmR b 4))
theorem j4O{v:Int}(h:0≤v∧v≤4611686018427387904):isEl (intS v):=by
 obtain ⟨c,e,hc,_⟩:=q6C h;exact ⟨_,_,e,by omega⟩
theorem z6N{l:List Int}(hl:l.length≤64)(hv:∀x∈l,0≤x∧x≤2147483647):intsG (listS (t:=I64) intS l)=l:=by
 have hf:=flat_len intS 14 l fun x _=>q1F x;have h4:14*l.length≤14*64:=Ba _ hl;unfold intsG;rw [z1f (t:=I64) (w:=intS) (fun x hx=>j4O ⟨(hv x hx).1,CT (hv x hx).2 (by decide)⟩) (by omega)]
 exact z0c (f:=fun x=>((gIntR x:Nat):Int)) (w:=intS) fun x hx=>z6c ⟨(hv x hx).1,Int.lt_of_le_of_lt (hv x hx).2 (by decide)⟩
theorem j0F{p:Pac}(h:vPac p=true):pacG (pacS p)=p∧isEl (pacS p):=by
 obtain ⟨hS,hL,hs,_⟩:=z4c p h;have hs':(sufS (pacL p) 0 5).length≤16777215:=by omega
 rw [hS];refine ⟨?_,_,_,rfl,hs'⟩;unfold pacG;rw [q4E (m:=0) (k:=5) hL (by omega) (by omega) hs',q4E (m:=1) (k:=5) hL (by omega) (by omega) hs',q4E (m:=2) (k:=5) hL (by omega) (by omega) hs',q4E (m:=3) (k:=5) hL (by omega) (by omega) hs',q4E (m:=4) (k:=5) hL (by omega) (by omega) hs']
 clear hS hL hs hs';obtain ⟨c,a,u,g,w⟩:=p;simp only [vPac,Ai,decide_eq_true_eq,A1] at h;obtain ⟨hc,ha,hu,hg1,hw1,hg,hw⟩:=h;change Int at a u;change List Int at g;change List Prin at w;have hg1:(g.length:Int)≤64:=hg1;have hw1:(w.length:Int)≤16:=hw1;obtain ⟨a,rfl,ga⟩:=j1M (show (0:Int)≤a∧a≤1099511627776 by simpa only [vTime,mIn,Ai,decide_eq_true_eq] using ha)
 have hu2:=z7d hu;show (prnR (prinE c),((gIntR (timeS (a:Int)):Nat):Int),((gIntR (intS u):Nat):Int),intsG (listS (t:=I64) intS g),nmsR (listS (t:=PrinT) prinE w))=_;rw [(z0k hc).1,z8X ga,z6c ⟨hu2.1,Int.lt_of_le_of_lt hu2.2 (by decide)⟩,z6N (by omega) (j1c hg),j0D (by omega) hw]
def decPcR(b:List UInt8):Option Pac:=if vPac (pacG b)=true∧pacS (pacG b)=b then some (pacG b) else none
theorem z1X(b:List UInt8):decPcR b=decPc b:=by
 unfold decPcR;split
 · rename_i h;have:=z3I h.1;rw [h.2] at this;exact this.symm
 rename_i h;cases hd:decPc b with
 |none=>rfl
 |some f=>
  exfalso;obtain ⟨h1,h2⟩:=z5G hd;have h4:pacG b=f:=by rw [←h2];exact (j0F h1).1
  rw [h4] at h;exact h ⟨h1,h2⟩
def srN(l:List (List UInt8))(i:Nat):List ByteArray:=(l.take i).map sR
theorem z9o{l:List (List UInt8)}{i:Nat}(h:i<l.length):srN l (i+1)=srN l i++ [sR (l.getD i (Ty.slice .u8).dflt)]:=by unfold srN;rw [q0V (d:=(Ty.slice .u8).dflt) h];simp
theorem j3K{l:List (List UInt8)}{i:Nat}(h:i≤l.length):(srN l i).length=i:=by simp [srN];omega
theorem z6v(x:List UInt8):(sR x).size≤x.length:=by
 have:=q2x x;unfold sR;show (conR x).toArray.size≤_;simpa using this
theorem q8S(b:List UInt8)(hb:b.length≤1048576):PC Tryz.prog 72 [.isl .u8 b] (.agg (PrinT.cells (prnR b))):=by
 have q0:=q2S b 0;have q1:=q2S b 1;have hc:=q1N (itmR b 0) (by omega)
 have hl:=q2x (itmR b 0);have he:=q4m (conR (itmR b 0)) (by omega)
 have hm:=q3u (conR (itmR b 0)).length (conR (itmR b 0));have hle:=q4l (conR (itmR b 0)).length (conR (itmR b 0));have hd:prnR b=((elsR (conR (itmR b 0)).length (conR (itmR b 0))).map sR,sR (itmR b 1)):=rfl;rw [hd];clear hd;generalize elsR (conR (itmR b 0)).length (conR (itmR b 0))=l at*;refine q0f rfl rfl ?_;refine rQ fi72 ?_;refine cQ (q7x b 0 (by omega) (by omega)) ?_
 refine cQ hc ?_;refine cQ he ?_;refine q2d 1 0 .str rfl rfl rfl ?_;with_reducible refine sxE ?_
 refine q0s (ι:=Nat×List SObj) (fun s=>[(5,rI s.1)]) (fun s=>[.cells 24 [.raw (.slice none 0 0),rS ⟨#[]⟩],.cells 24 [.bld (s.2.length+2) .str (srN l s.1).length,rS ⟨#[]⟩]]++s.2++ [.row .str (srN l s.1)]) (fun s=>l.length-s.1) (fun s=>s.1≤l.length) (0,[]) (Al _) rfl ?_ ?_
 · with_reducible refine sxE ?_;trivial
 rintro ⟨i,G⟩ hi;dsimp only at hi;have hwr:=wsx i (by omega)
 have hln:=j3K hi;refine uQ 12 _ ?_;with_reducible refine sxaE ?_
 refine ⟨fun hlt=> ?_,fun hge=> ?_⟩
 · have hmm:=hm _ (q0K (d:=(Ty.slice .u8).dflt) hlt);have hst:=z9o hlt;have hsz:=z6v (l.getD i (Ty.slice .u8).dflt);refine q2r [1] mixed ?_;refine aQ ?_;refine ⟨⟨by omega,hlt⟩,q0g (q1N _ (by omega)) ?_⟩
   refine aQ ?_


   refine ⟨by show (sR _).size≤_;omega,⟨by omega,by omega⟩,(i+1,G++ [.dead,.row .str [sR (l.getD i (Ty.slice .u8).dflt)]]),by dsimp only;omega,by dsimp only;omega,?_,?_⟩
   · simp [hst];rfl
   with_reducible refine sya1 hwr ?_;trivial
 obtain rfl:i=l.length:=by omega
 refine aQ ?_;refine q0a (q7x b 1 (by omega) (by omega)) ?_
 refine aQ ?_;refine q0a (q1N _ (by omega)) ?_
 refine aQ ?_;exact ⟨⟨Ag _,by omega⟩,by rw [Az];unfold srN;rw [Az],rfl⟩
def pnN(l:List (List UInt8))(i:Nat):List Prin:=(l.take i).map prnR
theorem z9L{l:List (List UInt8)}{i:Nat}(h:i<l.length):pnN l (i+1)=pnN l i++ [prnR (l.getD i (Ty.slice .u8).dflt)]:=by unfold pnN;rw [q0V (d:=(Ty.slice .u8).dflt) h];simp
theorem j3a{l:List (List UInt8)}{i:Nat}(h:i≤l.length):(pnN l i).length=i:=by simp [pnN];omega
theorem j3e(l:List (List UInt8)):pnN l l.length=l.map prnR:=by unfold pnN;rw [Az]
set_option maxHeartbeats 40000000
theorem j3b(c c':Prin)(a a' u u':Int)(g g':List Int)(w w':List Prin):decide (((c,a,u,g,w):Pac)=(c',a',u',g',w'))=(decide (g.length=g'.length) && (decide (w.length=w'.length) && (allN g.length (eqAt g g' (Ty.dflt I64)) && (allN w.length (eqAt w w' PrinT.dflt) && (decide (c=c') && (decide (a=a') && decide (u=u'))))))):=by
 have k1:=sameN g g' (Ty.dflt I64);have k2:=sameN w w' PrinT.dflt;rw [BF];simp only [decide_eq_true_eq,Ai,Prod.mk.injEq];constructor
 · rintro ⟨h1,h2,h3,h4,h5⟩;have h4:=k1.1 h4;have h5:=k2.1 h5;exact ⟨h4.1,h5.1,h4.2,h5.2,h1,h2,h3⟩
 rintro ⟨h1,h2,h3,h4,h5,h6,h7⟩;exact ⟨h5,h6,h7,k1.2 ⟨h1,h3⟩,k2.2 ⟨h2,h4⟩⟩
theorem q5W(p q:Pac)(ho:PacT.ok p):PC Tryz.prog 18 [.agg (PacT.cells p),.agg (PacT.cells q)] (rB (decide (p=q))):=by
 obtain ⟨c,a,u,g,w⟩:=p;obtain ⟨c',a',u',g',w'⟩:=q;obtain ⟨o1,_,_,o4,o5⟩:=ho;have hgl:List.length g≤1125899906842624:=o4.1;have hwl:List.length w≤1125899906842624:=o5.1;rw [show rB (decide (((c,a,u,g,w):Pac)=(c',a',u',g',w')))=_ from congrArg (fun b=>rB b) (j3b c c' a a' u u' g g' w w')]
 refine q0w rfl rfl ?_;refine rQ fi18 ?_;refine ⟨fun h1=>⟨fun h2=> ?_,fun h2=> ?_⟩,fun h1=> ?_⟩
 · rw [decide_eq_false (show ¬List.length w=List.length w' by omega),AF,Bj]
 rotate_left
 · rw [decide_eq_false (show ¬List.length g=List.length g' by omega),AF]
 have hlg:List.length g=List.length g':=by omega
 have hlw:List.length w=List.length w':=by omega
 rw [decide_eq_true hlg,decide_eq_true hlw,AH,AH];refine q0I (fun i=>[(5,.raw (.int .i64 ((i:Nat):Int)))]) (List.length g) (fun j=>(eqAt g g' (Ty.dflt I64)) j=true) (by first|decide|simp) (fun i=>rfl) ?_ fun i hi hall=> ?_
 · (with_reducible refine sxE ?_<;>try exact True.intro)
   all_goals (try rfl)
 have hwr:=wsx i (by omega)
 refine gQ ?_;have bad:i< (List.length g)→(eqAt g g' (Ty.dflt I64)) i=false→allN (List.length g) (eqAt g g' (Ty.dflt I64))=false:=fun hlt hv=>q0m hlt hv;have fin:¬i< (List.length g)→allN (List.length g) (eqAt g g' (Ty.dflt I64))=true:=fun h=>q0r fun j hj=>hall j (by omega)
 try dsimp only at bad fin hall
 have hgd:eqAt g g' (Ty.dflt I64) i=decide (g.getD i (Ty.dflt I64)=g'.getD i (Ty.dflt I64)):=rfl;refine ⟨fun hlt=>⟨⟨by omega,hlt⟩,⟨by omega,by omega⟩,fun h=> ?_,fun h=>⟨hlt,q0T hall ?_,⟨[],rfl⟩,?_⟩⟩,fun hge=> ?_⟩
 · rw [bad hlt (hgd.trans (decide_eq_false h)),AF]
 · exact hgd.trans (decide_eq_true h)
 · with_reducible refine sx1 hwr ?_;trivial
 rw [fin hge,AH];clear hall bad fin hgd;refine q0I (fun k=>[(6,.raw (.int .i64 ((k:Nat):Int)))]) (List.length w) (fun j=>(eqAt w w' PrinT.dflt) j=true) (by first|decide|simp) (fun i=>rfl) ?_ fun k hik hallk=> ?_
 · (with_reducible refine sxE ?_<;>try exact True.intro)
   all_goals (try rfl)
 have hwrk:=wsx k (by omega)
 refine gQ ?_;have badk:k< (List.length w)→(eqAt w w' PrinT.dflt) k=false→allN (List.length w) (eqAt w w' PrinT.dflt)=false:=fun hlt hv=>q0m hlt hv;have fink:¬k< (List.length w)→allN (List.length w) (eqAt w w' PrinT.dflt)=true:=fun h=>q0r fun j hj=>hallk j (by omega)
 try dsimp only at badk fink hallk
 have hgd:eqAt w w' PrinT.dflt k=decide (w.getD k PrinT.dflt=w'.getD k PrinT.dflt):=rfl;refine ⟨fun hlt=>⟨⟨by omega,hlt⟩,⟨by omega,by omega⟩,q0g (j4C (w.getD k PrinT.dflt) (w'.getD k PrinT.dflt) (o5.2 _ (q0K hlt))) ?_⟩,fun hge=>q0a (j4C c c' o1) ?_⟩
 · cases hn:decide (w.getD k PrinT.dflt=w'.getD k PrinT.dflt) with
   |false=>
    refine gQ ?_;rw [badk hlt (hgd.trans hn),AF]
   |true=>
    refine gQ ?_;refine ⟨hlt,q0T hallk (hgd.trans hn),⟨[],rfl⟩,?_⟩;with_reducible refine sx1 hwrk ?_;trivial
 rw [fink hge,AH];refine gQ ?_;exact ⟨fun e1=>⟨fun e2=>by rw [decide_eq_true e1,decide_eq_true e2,AH,AH],fun e2=>by rw [decide_eq_false e2,AF,Bj]⟩,fun e1=>by rw [decide_eq_false e1,AF]⟩
def cliK:Prin:=([⟨#[97]⟩],⟨#[82]⟩)
def pK:Pac:=(cliK,10,1000,[5,7],[])
def r16(c:UInt8):List UInt8:=List.replicate 16 c
def sK:Key:=(1,1,r16 1)
def rK:Key:=(1,4,r16 2)
theorem vpK:vPac pK=true:=by kernel_rfl
theorem vsK:vKey sK=true:=by decide
theorem vrK:vKey rK=true:=by decide
theorem lpK:(pacS pK).length=44:=by kernel_rfl
def m16(f:Nat→UInt8):List UInt8:=(List.range 16).map f
theorem z6k{l:List UInt8}(h:l.length=16):l=m16 (fun i=>l.getD i 0):=by
 unfold m16;apply AP
 · simp [h]
 intro i h1 h2;simp [Ab h1]
theorem lsgn(f g:Nat→UInt8):(sgnS (pK,(1,1,m16 f),(1,4,m16 g))).length=116:=by kernel_rfl
def cK:List UInt8:=sgnS (signX pK sK rK)
theorem lcK:cK.length=116:=by
 have h1:=q6b sK 17 (pacS pK) (by decide)
 have h2:=q6b rK 18 (smS sK 17 (pacS pK)) (by decide)
 have e:signX pK sK rK=(pK,(1,1,smS sK 17 (pacS pK)),(1,4,smS rK 18 (smS sK 17 (pacS pK)))):=rfl;unfold cK;rw [e,z6k (l:=smS sK 17 (pacS pK)) h1];rw [z6k (l:=smS rK 18 _) (by rw [z6k (l:=smS sK 17 (pacS pK)) h1] at h2;exact h2)]
 exact lsgn _ _
theorem sgK:signS pK sK rK=(cK,0):=by
 have h:=lcK;unfold signS;rw [vpK,vsK,vrK,Bp,Bp,if_pos rfl,if_neg (by rw [show (sgnS (signX pK sK rK)).length=116 from h];decide)]
 rfl
theorem vf1:vfyS cK sK rK=(pK,0):=q2R vpK vsK vrK (.inl rfl) (.inl rfl)
theorem vf2:vfyS cK sK KeyT.dflt=(pK,0):=q2R vpK vsK vrK (.inl rfl) (.inr rfl)
theorem vf3:vfyS cK KeyT.dflt rK=(pK,0):=q2R vpK vsK vrK (.inr rfl) (.inl rfl)
theorem z0E{p:Pac}{s r s' r':Key}{e:Int}(hv:vPac p=true)(hs:vKey s=true)(hr:vKey r=true)(h1:vKey s'=true)(h2:vKey r'=true)(n1:noK s'=false)(n2:noK r'=false)
 (hw:(e=230∧fitK s' (sigK s 17 (pacS p))=false)∨(e=231∧s'=s∧fitK r' (sigK r 18 (smS s 17 (pacS p)))=false)):vfyS (sgnS (signX p s r)) s' r'=(PacT.dflt,e):=by
 have hX:signX p s r=(p,sigK s 17 (pacS p),sigK r 18 (smS s 17 (pacS p))):=rfl;have a1:argK s'=true:=by unfold argK;rw [h1,B7]
 have a2:argK r'=true:=by unfold argK;rw [h2,B7]
 unfold vfyS;rw [a1,a2,Bp,if_pos rfl,z3W (z2P hv hs hr),hX];dsimp only;rcases hw with ⟨rfl,h⟩ | ⟨rfl,rfl,h⟩
 · rw [show rightB s' 17 (pacS p) (sigK s 17 (pacS p))=false by unfold rightB;rw [n1,h];rfl,if_neg (by decide)]
 rw [q6k,if_pos rfl,show rightB r' 18 (sigK s' 17 (pacS p)).2.2 (sigK r 18 (smS s' 17 (pacS p)))=false by unfold rightB;rw [n2,h];rfl,if_neg (by decide)]
theorem vf4:vfyS cK rK rK=(PacT.dflt,230):=z0E vpK vsK vrK vrK vrK (by decide) (by decide) (.inl ⟨rfl,rfl⟩)
theorem vf5:vfyS cK sK sK=(PacT.dflt,231):=z0E vpK vsK vrK vsK vsK (by decide) (by decide) (.inr ⟨rfl,rfl,rfl⟩)
theorem vf6:vfyS [48,0] sK rK=(PacT.dflt,6):=by
 have h:decSg [48,0]=none:=by kernel_rfl
 unfold vfyS;rw [show argK sK=true by decide,show argK rK=true by decide,Bp,if_pos rfl,h]
theorem okpK:PacT.ok pK:=by
 refine ⟨⟨⟨by decide,fun s hs=> ?_⟩,show (1:Nat)≤_ by decide⟩,trivial,trivial,⟨by decide,fun _ _=>trivial⟩,q4x⟩
 rw [Bw.1 hs];show (1:Nat)≤_;decide
theorem okK16(v:Int)(c:UInt8):KeyT.ok ((1,v,r16 c):Key):=⟨trivial,trivial,⟨by show (List.replicate 16 c).length≤_;simp,fun _ _=>trivial⟩⟩
theorem okK0:KeyT.ok KeyT.dflt:=⟨trivial,trivial,q4x⟩
theorem z4r:PC Tryz.prog 12 [] (rB true):=by
 have ce:=z0n pK okpK;rw [vpK,if_pos rfl,if_pos rfl] at ce;have cs:=q4U pK sK rK okpK (okK16 1 1) (okK16 4 2);rw [sgK] at cs;have v1:=q1G cK sK rK (by rw [lcK];decide) (okK16 1 1) (okK16 4 2)
 rw [vf1] at v1;have v2:=q1G cK sK KeyT.dflt (by rw [lcK];decide) (okK16 1 1) okK0
 rw [vf2] at v2;have v3:=q1G cK KeyT.dflt rK (by rw [lcK];decide) okK0 (okK16 4 2)
 rw [vf3] at v3;have v4:=q1G cK rK rK (by rw [lcK];decide) (okK16 4 2) (okK16 4 2)
 rw [vf4] at v4;have v5:=q1G cK sK sK (by rw [lcK];decide) (okK16 1 1) (okK16 1 1)
 rw [vf5] at v5;have v6:=q1G [48,0] sK rK (by decide) (okK16 1 1) (okK16 4 2)
 rw [vf6] at v6;have b1:=z1U pK cliK 10 okpK okpK.1;have b2:=z1U pK cliK 11 okpK okpK.1;rw [show bindS pK cliK 10=0 by kernel_rfl] at b1
 rw [show bindS pK cliK 11=232 by kernel_rfl] at b2
 have m7:=z4m pK 7 okpK;have m6:=z4m pK 6 okpK;rw [show (decide ((7:Int)∈pK.2.2.2.1))=true from by decide] at m7
 rw [show (decide ((6:Int)∈pK.2.2.2.1))=false from by decide] at m6
 have hs:=q5W pK pK okpK;rw [decide_eq_true rfl] at hs;have l1:=lpK;have l2:=lcK;have l1i:((pacS pK).length:Int)=44:=by omega
 have l2i:(cK.length:Int)=116:=by omega
 generalize pacS pK=bb at*;generalize cK=cc at*;refine q0w rfl rfl ?_;refine q3H fi12 ?_;refine gQ ?_;refine ⟨by decide,q0a (j1j 1 16 (by decide)) ?_⟩
 with_reducible refine sxE ?_
 refine q0X 2 rfl rfl (by simp) ?_ ?_ ?_
 · with_reducible refine sxE ?_;trivial
 · with_reducible refine sxE ?_;trivial
 with_reducible refine sxE ?_
 refine q0X 0 rfl rfl (by simp) ?_ ?_ ?_
 · with_reducible refine sxE ?_;trivial
 · with_reducible refine sxE ?_;trivial
 with_reducible refine sxE ?_
 refine gQ ?_;refine cQ (j1j 2 16 (by decide)) ?_
 refine q0a (ce.arg ?_) ?_
 · simp (maxSteps:=3000000) only [pK,cliK,go_sem,↓zA,↓reduceIte,↓reduceDIte] <;>try simp only [zB]
 refine gQ ?_;refine q0a (cs.arg ?_) ?_
 · simp (maxSteps:=3000000) only [pK,cliK,sK,rK,r16,go_sem,↓zA,↓reduceIte,↓reduceDIte] <;>try simp only [zB]
 refine gQ ?_;refine q0a (v1.arg ?_) ?_
 · simp (maxSteps:=3000000) only [sK,rK,r16,go_sem,↓zA,↓reduceIte,↓reduceDIte] <;>try simp only [zB]
 refine gQ ?_;refine q0a (v2.arg ?_) ?_
 · simp (maxSteps:=3000000) only [sK,rK,r16,go_sem,↓zA,↓reduceIte,↓reduceDIte] <;>try simp only [zB]
   exact ⟨rfl,rfl,rfl⟩
 refine gQ ?_;refine q0a (v3.arg ?_) ?_
 · simp (maxSteps:=3000000) only [sK,rK,r16,go_sem,↓zA,↓reduceIte,↓reduceDIte] <;>try simp only [zB]
   exact ⟨rfl,rfl,rfl⟩
 refine gQ ?_;refine q0a (v4.arg ?_) ?_
 · simp (maxSteps:=3000000) only [sK,rK,r16,go_sem,↓zA,↓reduceIte,↓reduceDIte] <;>try simp only [zB]
 refine gQ ?_;refine q0a (v5.arg ?_) ?_
 · simp (maxSteps:=3000000) only [sK,rK,r16,go_sem,↓zA,↓reduceIte,↓reduceDIte] <;>try simp only [zB]
 refine gQ ?_;refine ⟨⟨rfl,rfl⟩,q0o 12 ?_⟩;with_reducible refine sxE ?_
 refine q0a (v6.arg ?_) ?_
 · simp (maxSteps:=3000000) only [sK,rK,r16,go_sem,↓zA,↓reduceIte,↓reduceDIte] <;>try simp only [zB]
   rfl
 have hw00:IntKind.i64.wrap (0+0)=0:=by decide
 refine gQ ?_;refine cQ (q0S _) ?_;refine cy1 (q0S _) hw00 ?_;refine cy1 (q0S _) hw00 ?_;refine cy1 (q0S _) hw00 ?_;refine q0a (q0S _) ?_;refine gy3 hw00 l1i l2i ?_;refine cQ (q0S _) ?_;refine cQ (q0S _) ?_;refine cQ (q0S _) ?_;refine q0a (hs.arg ?_) ?_
 · simp (maxSteps:=3000000) only [pK,cliK,go_sem,↓zA,↓reduceIte,↓reduceDIte] <;>try simp only [zB]
 refine gQ ?_;refine q0a (hs.arg ?_) ?_
 · simp (maxSteps:=3000000) only [pK,cliK,go_sem,↓zA,↓reduceIte,↓reduceDIte] <;>try simp only [zB]
 refine gQ ?_;refine q0a (hs.arg ?_) ?_
 · simp (maxSteps:=3000000) only [pK,cliK,go_sem,↓zA,↓reduceIte,↓reduceDIte] <;>try simp only [zB]
 refine gQ ?_;refine q0a (b1.arg ?_) ?_
 · simp (maxSteps:=3000000) only [pK,cliK,go_sem,↓zA,↓reduceIte,↓reduceDIte] <;>try simp only [zB]
 refine gQ ?_;refine cQ (q0S _) ?_;refine q0a (b2.arg ?_) ?_
 · simp (maxSteps:=3000000) only [pK,cliK,go_sem,↓zA,↓reduceIte,↓reduceDIte] <;>try simp only [zB]
 refine gQ ?_;refine cQ (q0S _) ?_;refine q0a (m7.arg ?_) ?_
 · simp (maxSteps:=3000000) only [pK,cliK,go_sem,↓zA,↓reduceIte,↓reduceDIte] <;>try simp only [zB]
 refine gQ ?_;refine q0a (m6.arg ?_) ?_
 · simp (maxSteps:=3000000) only [pK,cliK,go_sem,↓zA,↓reduceIte,↓reduceDIte] <;>try simp only [zB]
 refine gQ ?_;trivial
set_option maxHeartbeats 4000000
def is128(l:List Pre)(j:Nat):Bool:=decide ((l.getD j PreT.dflt).1=(128:Int))
def findD(l:List Pre):List UInt8×Bool:=match firstN l.length (is128 l) with
 |some i=>((l.getD i PreT.dflt).2,true)
 |none=>([],false)
theorem j2f(l:List Pre)(ho:(Ty.slice PreT).ok l)(hs:∀x∈l,x.2.length≤1048576):PC Tryz.prog 29 [.isl PreT l] (.tup [.isl .u8 (findD l).1,rB (findD l).2]):=by
 have hl:=ho.1;generalize hR:findD l=R;refine q0f rfl rfl ?_;refine rQ fi29 ?_;refine q0I (fun i=>[(8,.raw (.int .i64 ((i:Nat):Int)))]) (l.length) (fun j=>(fun j=> !is128 l j) j=true) (by first|decide|simp) (fun i=>rfl) ?_ fun i hi hall=> ?_
 · (with_reducible refine sxE ?_<;>try exact True.intro)
   all_goals (try rfl)
 have hwr:=wsx i (by omega)
 refine gQ ?_;have bad:i< (l.length)→(fun j=> !is128 l j) i=false→allN (l.length) (fun j=> !is128 l j)=false:=fun hlt hv=>q0m hlt hv;have fin:¬i< (l.length)→allN (l.length) (fun j=> !is128 l j)=true:=fun h=>q0r fun j hj=>hall j (by omega)
 try dsimp only at bad fin hall
 have hall':∀j,j<i→is128 l j=false:=fun j hj=>by simpa using hall j hj
 refine ⟨fun hlt=>⟨⟨by omega,hlt⟩,fun h=> ?_,fun h=>⟨hlt,q0T hall' (by simpa [is128] using h),⟨[_],rfl⟩,?_⟩⟩,fun hge=> ?_⟩
 · have hle:=hs _ (q0K (d:=PreT.dflt) hlt);have hR':R=((l.getD i PreT.dflt).2,true):=by
    rw [←hR];unfold findD;rw [q2h hlt (by simpa [is128] using h) hall']
   rw [hR'];exact ⟨⟨by omega,by omega⟩,⟨by omega,by omega⟩,by rw [Ae,Az],rfl⟩
 · with_reducible refine sx1 hwr ?_;trivial
 have hR':R=([],false):=by
  rw [←hR];unfold findD;rw [q4G (fun j hj=>hall' j (by omega))]
 rw [hR'];exact ⟨rfl,rfl⟩
theorem j3l:PC Tryz.prog 76 [.raw (.slice none 0 0),.fn 77 [] []] (rI (-1)):=by
 refine q0w rfl rfl ?_;refine rQ fi76 ?_;refine q0I (fun i=>[(8,.raw (.int .i64 ((i:Nat):Int)))]) (0) (fun j=>(fun _=>true) j=true) (by first|decide|simp) (fun i=>rfl) ?_ fun i hi hall=> ?_
 · (with_reducible refine sxE ?_<;>try exact True.intro)
   all_goals (try rfl)
 have hwr:=wsx i (by omega)
 refine gQ ?_;have bad:i< (0)→(fun _=>true) i=false→allN (0) (fun _=>true)=false:=fun hlt hv=>q0m hlt hv;have fin:¬i< (0)→allN (0) (fun _=>true)=true:=fun h=>q0r fun j hj=>hall j (by omega)
 try dsimp only at bad fin hall
 obtain rfl:i=0:=by omega
 exact ⟨fun h=>absurd h (by decide),fun _=>trivial⟩
theorem j4a(b:List UInt8)(hb:b.length≤1099511627776):PC Tryz.prog 24 [.raw (.slice none 0 0),.isl .u8 b] (if 4096<b.length then .tup [.isl PreT [],rI 2] else .tup [.isl PreT [((128:Int),b)],rI 0]):=by
 by_cases h:4096<b.length
 · rw [if_pos h];have f1:(4096< (b.length:Int))=True:=eq_true (by omega)
   refine q0f rfl rfl ?_;refine ry1 fi24 f1 ?_;trivial
 rw [if_neg h];have f1:(4096< (b.length:Int))=False:=eq_false (by omega)
 refine q0f rfl rfl ?_;refine ry1 fi24 f1 ?_;refine cQ j3l ?_;refine q0I (fun i=>[(7,.raw (.slice none 0 0)),(25,rI (i:Nat))]) 0 (fun _=>True) (by first|decide|simp) (fun i=>rfl) ?_ fun i hi _=> ?_
 · with_reducible refine sxE ?_;trivial
 obtain rfl:i=0:=by omega
 refine uQ 12 _ ?_;with_reducible refine sxE ?_
 refine ⟨⟨by omega,by omega⟩,?_⟩
 refine q0X 0 rfl rfl (by omega) ?_ ?_ ?_
 · with_reducible refine sxE ?_;trivial
 · with_reducible refine sxE ?_
   omega
 with_reducible refine sxE ?_
 rw [Ae,Az];refine gQ ?_;trivial
end Go.Proofs.YtmapiojgmbgbgaaGreatDoor
namespace Go.Sx
open Go

variable [Ghost] {P:Program} {AQ:Ex→List SV→List SObj→Prop} {k0:Nat} {k:List IT} {k':List It} {t:List SV} {H:List SObj}
variable {all:Array Oper} {G:List Nat} {o:Oper} {ev:Operand→SV} {K:Out→List SObj→Prop}

def atOp(P:Program)(all:Array Oper)(i:Nat):Option OpI:=(all[i]?).bind (compO P all)
theorem z3g{i:Nat}{io:OpI}(h:atOp P all i=some io):∃o,all[i]?=some o∧compO P all o=some io:=by
 unfold atOp at h;cases ho:all[i]? with
 |none=>rw [ho] at h;cases h
 |some o=>rw [ho] at h;exact ⟨o,rfl,h⟩
theorem q3W{n:Nat}{listed:Array Bool}{l:List (Bool×OpI)}(hpl:planL P all n listed=some l)(hr:RelT P k k')(h:SoundI P AQ ⟨k0,.dops G l :: k,t,H⟩):AnyV P AQ k0 k' all G n listed t H:=h all listed n k' hpl hr
theorem q6N{id m:Nat}(hm:P.follows .mixedOrders=true)(hs:all.size=m)(h:AnyV P AQ k0 k' all G m (Array.replicate m false) t H):Sound P AQ ⟨k0,.code (.region id all true) :: k',t,H⟩:=q8F G hm (by rw [hs];exact h)

end Go.Sx
