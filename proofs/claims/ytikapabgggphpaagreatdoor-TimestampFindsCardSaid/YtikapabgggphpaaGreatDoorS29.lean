/- Contracts: the measure of an element. -/
import Derived.Test.YtikapabgggphpaaGreatDoorS28
set_option linter.all false
namespace Go.Proofs.YtikapabgggphpaaGreatDoor
open Go Go.Sx Go.Proofs
set_option maxRecDepth 100000
set_option maxHeartbeats 4000000
def beN(l:List UInt8):Nat:=l.foldl (fun v c=>v*256+c.toNat) 0
theorem q3A(l:List UInt8)(i:Nat)(h:i<l.length):beN (l.take (i+1))=beN (l.take i)*256+ (l.getD i 0).toNat:=by
 unfold beN;rw [CE,List.foldl_append,Ae h,Aa,Ae h];rfl
theorem q3X:∀ (l:List UInt8),beN l<256^ l.length:=by
 intro l;have:∀ (l:List UInt8) (v:Nat),l.foldl (fun v c=>v*256+c.toNat) v< (v+1)*256^ l.length:=by
  intro l;induction l with
  |nil=>intro v;simp
  |cons c l ih=>
   intro v;have h1:=ih (v*256+c.toNat);have h2:c.toNat<256:=c.toNat_lt;simp only [B9,AM,Nat.pow_succ];refine An h1 ?_;have:(v*256+c.toNat+1)*256^ l.length≤((v+1)*256)*256^ l.length:=A7 _ (by omega)
   calc _≤_:=this
    _=_:=by rw [Nat.mul_assoc,Nat.mul_comm 256]
 have h:=this l 0;simpa [beN] using h
theorem q9n(v c:Nat)(hv:v<36028797018963968)(hc:c<256):IntKind.i64.wrap ((BitVec.ofInt 64 ((v*256:Nat):Int) |||BitVec.ofInt 64 ((c:Nat):Int)).toNat:Int)=((v*256+c:Nat):Int):=by
 have h1:(BitVec.ofInt 64 ((v*256:Nat):Int)).toNat=v*256:=by rw [AO,AX];exact AY (by omega)
 have h2:(BitVec.ofInt 64 ((c:Nat):Int)).toNat=c:=by rw [AO,AX];exact AY (by omega)
 have h3:v*256|||c=v*256+c:=by
  have:=Cm (b:=c) (i:=8) hc v;rw [CI] at this;exact this.symm
 rw [Ca,h1,h2,h3];exact wrapi (by omega)
theorem z3K(b:List UInt8)(hb:b.length≤7):PC Tryz.prog 105 [.isl .u8 b] (rI (beN b)):=by
 refine q0p rfl rfl ?_;refine rQ fi105 ?_;refine q4m (fun i=>[(2,rI (beN (b.take i))),(7,.raw (.int .i64 ((i:Nat):Int)))]) (b.length) (fun j=>(fun _=>true) j=true) (by first|decide|simp) (fun i=>rfl) ?_ fun i hi hall=> ?_
 · (with_reducible refine sxE ?_<;>try exact True.intro)
   all_goals (try rfl)
 have hwr:=wsx i (by omega)
 refine gQ ?_;have bad:i< (b.length)→(fun _=>true) i=false→allN (b.length) (fun _=>true)=false:=fun hlt hv=>q1Q hlt hv;have fin:¬i< (b.length)→allN (b.length) (fun _=>true)=true:=fun h=>q2p fun j hj=>hall j (by omega)
 try dsimp only at bad fin hall
 refine ⟨fun hlt=>⟨⟨by omega,hlt⟩,?_⟩,fun hge=> ?_⟩
 · have hv:=q3X (b.take i);have hv2:256^ (b.take i).length≤256^ 6:=AZ (by decide) (by simp;omega)
   have hc:(b.getD i Ty.u8.dflt).toNat<256:=Bj _;have e1:IntKind.i64.wrap ((beN (b.take i):Int)*2^ min 8 64)=((beN (b.take i)*256:Nat):Int):=by
    rw [show ((beN (b.take i):Int)*2^ min 8 64)=((beN (b.take i)*256:Nat):Int) by simp]
    exact wrapi (by omega)
   have e2:IntKind.i64.wrap ((b.getD i Ty.u8.dflt).toNat:Int)=(((b.getD i Ty.u8.dflt).toNat:Nat):Int):=wrapi (by omega)
   have e3:=q9n (beN (b.take i)) (b.getD i Ty.u8.dflt).toNat (by omega) hc
   have e4:=q3A b i hlt;rw [e1,e2];refine ⟨hlt,trivial,⟨[],rfl⟩,?_⟩;with_reducible refine sx1 hwr ?_
   rw [e4];exact congrArg (Value.int .i64) e3
 obtain rfl:i=b.length:=by omega
 rw [AE]
def minLen:Nat→Nat
 |1=>128|2=>256|3=>65536|_=>0
def measE(b:List UInt8)(at_ n:Nat):Nat×Nat×Nat:=if b.length-at_<n then (0,0,4) else (at_,at_+n,0)
def meas(b:List UInt8):Nat×Nat×Nat:=
 if b.length<2 then (0,0,4) else
 if (b.getD 1 0).toNat<128 then measE b 2 (b.getD 1 0).toNat else
 if (b.getD 1 0).toNat-128<1∨3< (b.getD 1 0).toNat-128 then (0,0,6) else
 if b.length<2+ ((b.getD 1 0).toNat-128) then (0,0,4) else
 if beN ((b.drop 2).take ((b.getD 1 0).toNat-128)) <minLen ((b.getD 1 0).toNat-128) then (0,0,6) else
 measE b (2+ ((b.getD 1 0).toNat-128)) (beN ((b.drop 2).take ((b.getD 1 0).toNat-128)))
def measV(m:Nat×Nat×Nat):SV:=.tup [rI m.1,rI m.2.1,rI m.2.2]
theorem z6M(b:List UInt8)(hb:b.length≤1099511627776):PC Tryz.prog 147 [.isl .u8 b] (measV (meas b)):=by
 refine q0p rfl rfl ?_;have hx:(b.getD 1 Ty.u8.dflt).toNat<256:=Bj _;have e0:IntKind.i64.wrap ((b.getD 1 Ty.u8.dflt).toNat:Int)=(((b.getD 1 Ty.u8.dflt).toNat:Nat):Int):=wrapi (by omega)
 have e1:IntKind.i64.wrap (((b.getD 1 Ty.u8.dflt).toNat:Int) -128)=((b.getD 1 Ty.u8.dflt).toNat:Int) -128:=wrapi (by omega)
 have e2:IntKind.i64.wrap (2+ (((b.getD 1 Ty.u8.dflt).toNat:Int) -128))=2+ (((b.getD 1 Ty.u8.dflt).toNat:Int) -128):=wrapi (by omega)
 have e3:IntKind.i64.wrap ((b.length:Int) -2)=(b.length:Int) -2:=wrapi (by omega)
 have e4:IntKind.i64.wrap (2+ ((b.getD 1 Ty.u8.dflt).toNat:Int))=2+ ((b.getD 1 Ty.u8.dflt).toNat:Int):=wrapi (by omega)
 have hm:∀r,meas b=r→measV (meas b)=measV r:=fun r h=>by rw [h]
 unfold measV;refine ry5 fi147 e0 e1 e2 e3 e4 ?_;have hd:b.getD 1 0=b.getD 1 Ty.u8.dflt:=rfl;generalize hxx:b.getD 1 Ty.u8.dflt=x at*;refine ⟨fun h=> ?_,fun h=>⟨by omega,fun h2=>⟨fun h3=>⟨fun h4=> ?_,fun h4=>⟨fun h5=> ?_,fun h5=>⟨⟨by omega,by omega,by omega⟩,?_⟩⟩⟩,fun h3=> ?_⟩,fun h2=>⟨fun h3=> ?_,fun h3=> ?_⟩⟩⟩
 · have:meas b=(0,0,4):=by unfold meas;rw [if_pos (by omega)]
   rw [this];rfl
 · have:meas b=(0,0,6):=by unfold meas;rw [hd,if_neg (by omega),if_neg (by omega),if_pos (by omega)]
   rw [this];rfl
 · have:meas b=(0,0,4):=by unfold meas;rw [hd,if_neg (by omega),if_neg (by omega),if_neg (by omega),if_pos (by omega)]
   rw [this];rfl
 · obtain ⟨m,hxm⟩:∃m:Nat,(x.toNat:Int) -128=(m:Int):=⟨x.toNat-128,by omega⟩
   have hm3:1≤m∧m≤3:=by omega
   have ht2:((2:Int)+ (m:Int)).toNat=2+m:=by omega
   have hll:(List.drop 2 (List.take (2+m) b)).length=m:=by simp;omega
   rw [hxm,ht2,hll];generalize hL:List.drop 2 (List.take (2+m) b)=L at*;have hmq:∀v,beN L=v→meas b=(if v<minLen m then (0,0,6) else measE b (2+m) v):=fun v hv=>by
    have hLx:(b.drop 2).take m=L:=by rw [←hL,BJ];congr 1;omega
    unfold meas;rw [hd,show x.toNat-128=m by omega,if_neg (by omega),if_neg (by omega),if_neg (by omega),if_neg (by omega),hLx,hv]
   rcases (by omega:m=1∨m=2∨m=3) with rfl|rfl|rfl
   · refine q4m (fun i=>[(5,rI (beN (L.take i))),(39,.raw (.int .i64 ((i:Nat):Int)))]) (1) (fun j=>(fun _=>true) j=true) (by first|decide|simp) (fun i=>rfl) ?_ fun i hi hall=> ?_
     · (with_reducible refine sxE ?_<;>try exact True.intro)
       all_goals (try rfl)
     have hwr:=wsx i (by omega)
     refine gQ ?_;have bad:i< (1)→(fun _=>true) i=false→allN (1) (fun _=>true)=false:=fun hlt hv=>q1Q hlt hv;have fin:¬i< (1)→allN (1) (fun _=>true)=true:=fun h=>q2p fun j hj=>hall j (by omega)
     try dsimp only at bad fin hall
     refine ⟨fun hlt=>⟨⟨by omega,by omega⟩,?_⟩,fun hge=> ?_⟩
     · have hv:=q3X (L.take i);have hv2:256^ (L.take i).length≤256^ 6:=AZ (by decide) (by simp;omega)
       have hc:(L.getD i Ty.u8.dflt).toNat<256:=Bj _;have e1:IntKind.i64.wrap ((beN (L.take i):Int)*2^ min 8 64)=((beN (L.take i)*256:Nat):Int):=by
        rw [show ((beN (L.take i):Int)*2^ min 8 64)=((beN (L.take i)*256:Nat):Int) by simp]
        exact wrapi (by omega)
       have e2:IntKind.i64.wrap ((L.getD i Ty.u8.dflt).toNat:Int)=(((L.getD i Ty.u8.dflt).toNat:Nat):Int):=wrapi (by omega)
       have e3:=q9n (beN (L.take i)) (L.getD i Ty.u8.dflt).toNat (by omega) hc
       have e4:=q3A L i (by omega)
       rw [e1,e2];refine ⟨hlt,trivial,⟨[],rfl⟩,?_⟩;with_reducible refine sx1 hwr ?_
       rw [e4];exact congrArg (Value.int .i64) e3
     rw [Ab (by omega:L.length≤i)]
     have hv:=q3X L;rw [hll] at hv;have hv3:beN L<16777216:=by omega
     have w1:IntKind.i64.wrap ((b.length:Int) - (2+ ((1:Nat):Int)))=(b.length:Int) - (2+ ((1:Nat):Int)):=wrapi (by omega)
     have w2:IntKind.i64.wrap (2+ ((1:Nat):Int)+ (beN L:Int))=((2+1+beN L:Nat):Int):=by rw [wrapi (by omega)];omega
     rw [w1,w2];refine ⟨by decide,fun q=> ?_,fun q=>⟨fun q2=> ?_,fun q2=> ?_⟩⟩
     · rw [hmq _ rfl,if_pos (by simp only [minLen];omega)];rfl
     · rw [hmq _ rfl,if_neg (by simp only [minLen];omega)];unfold measE;rw [if_pos (by omega)];rfl
     rw [hmq _ rfl,if_neg (by simp only [minLen];omega)];unfold measE;rw [if_neg (by omega)];rfl
   · refine q4m (fun i=>[(5,rI (beN (L.take i))),(39,.raw (.int .i64 ((i:Nat):Int)))]) (2) (fun j=>(fun _=>true) j=true) (by first|decide|simp) (fun i=>rfl) ?_ fun i hi hall=> ?_
     · (with_reducible refine sxE ?_<;>try exact True.intro)
       all_goals (try rfl)
     have hwr:=wsx i (by omega)
     refine gQ ?_;have bad:i< (2)→(fun _=>true) i=false→allN (2) (fun _=>true)=false:=fun hlt hv=>q1Q hlt hv;have fin:¬i< (2)→allN (2) (fun _=>true)=true:=fun h=>q2p fun j hj=>hall j (by omega)
     try dsimp only at bad fin hall
     refine ⟨fun hlt=>⟨⟨by omega,by omega⟩,?_⟩,fun hge=> ?_⟩
     · have hv:=q3X (L.take i);have hv2:256^ (L.take i).length≤256^ 6:=AZ (by decide) (by simp;omega)
       have hc:(L.getD i Ty.u8.dflt).toNat<256:=Bj _;have e1:IntKind.i64.wrap ((beN (L.take i):Int)*2^ min 8 64)=((beN (L.take i)*256:Nat):Int):=by
        rw [show ((beN (L.take i):Int)*2^ min 8 64)=((beN (L.take i)*256:Nat):Int) by simp]
        exact wrapi (by omega)
       have e2:IntKind.i64.wrap ((L.getD i Ty.u8.dflt).toNat:Int)=(((L.getD i Ty.u8.dflt).toNat:Nat):Int):=wrapi (by omega)
       have e3:=q9n (beN (L.take i)) (L.getD i Ty.u8.dflt).toNat (by omega) hc
       have e4:=q3A L i (by omega)
       rw [e1,e2];refine ⟨hlt,trivial,⟨[],rfl⟩,?_⟩;with_reducible refine sx1 hwr ?_
       rw [e4];exact congrArg (Value.int .i64) e3
     rw [Ab (by omega:L.length≤i)]
     have hv:=q3X L;rw [hll] at hv;have hv3:beN L<16777216:=by omega
     have w1:IntKind.i64.wrap ((b.length:Int) - (2+ ((2:Nat):Int)))=(b.length:Int) - (2+ ((2:Nat):Int)):=wrapi (by omega)
     have w2:IntKind.i64.wrap (2+ ((2:Nat):Int)+ (beN L:Int))=((2+2+beN L:Nat):Int):=by rw [wrapi (by omega)];omega
     rw [w1,w2];refine ⟨by decide,fun q=> ?_,fun q=>⟨fun q2=> ?_,fun q2=> ?_⟩⟩
     · rw [hmq _ rfl,if_pos (by simp only [minLen];omega)];rfl
     · rw [hmq _ rfl,if_neg (by simp only [minLen];omega)];unfold measE;rw [if_pos (by omega)];rfl
     rw [hmq _ rfl,if_neg (by simp only [minLen];omega)];unfold measE;rw [if_neg (by omega)];rfl
   refine q4m (fun i=>[(5,rI (beN (L.take i))),(39,.raw (.int .i64 ((i:Nat):Int)))]) (3) (fun j=>(fun _=>true) j=true) (by first|decide|simp) (fun i=>rfl) ?_ fun i hi hall=> ?_
   · (with_reducible refine sxE ?_<;>try exact True.intro)
     all_goals (try rfl)
   have hwr:=wsx i (by omega)
   refine gQ ?_;have bad:i< (3)→(fun _=>true) i=false→allN (3) (fun _=>true)=false:=fun hlt hv=>q1Q hlt hv;have fin:¬i< (3)→allN (3) (fun _=>true)=true:=fun h=>q2p fun j hj=>hall j (by omega)
   try dsimp only at bad fin hall
   refine ⟨fun hlt=>⟨⟨by omega,by omega⟩,?_⟩,fun hge=> ?_⟩
   · have hv:=q3X (L.take i);have hv2:256^ (L.take i).length≤256^ 6:=AZ (by decide) (by simp;omega)
     have hc:(L.getD i Ty.u8.dflt).toNat<256:=Bj _;have e1:IntKind.i64.wrap ((beN (L.take i):Int)*2^ min 8 64)=((beN (L.take i)*256:Nat):Int):=by
      rw [show ((beN (L.take i):Int)*2^ min 8 64)=((beN (L.take i)*256:Nat):Int) by simp]
      exact wrapi (by omega)
     have e2:IntKind.i64.wrap ((L.getD i Ty.u8.dflt).toNat:Int)=(((L.getD i Ty.u8.dflt).toNat:Nat):Int):=wrapi (by omega)
     have e3:=q9n (beN (L.take i)) (L.getD i Ty.u8.dflt).toNat (by omega) hc
     have e4:=q3A L i (by omega)
     rw [e1,e2];refine ⟨hlt,trivial,⟨[],rfl⟩,?_⟩;with_reducible refine sx1 hwr ?_
     rw [e4];exact congrArg (Value.int .i64) e3
   rw [Ab (by omega:L.length≤i)]
   have hv:=q3X L;rw [hll] at hv;have hv3:beN L<16777216:=by omega
   have w1:IntKind.i64.wrap ((b.length:Int) - (2+ ((3:Nat):Int)))=(b.length:Int) - (2+ ((3:Nat):Int)):=wrapi (by omega)
   have w2:IntKind.i64.wrap (2+ ((3:Nat):Int)+ (beN L:Int))=((2+3+beN L:Nat):Int):=by rw [wrapi (by omega)];omega
   rw [w1,w2];refine ⟨by decide,fun q=> ?_,fun q=>⟨fun q2=> ?_,fun q2=> ?_⟩⟩
   · rw [hmq _ rfl,if_pos (by simp only [minLen];omega)];rfl
   · rw [hmq _ rfl,if_neg (by simp only [minLen];omega)];unfold measE;rw [if_pos (by omega)];rfl
   rw [hmq _ rfl,if_neg (by simp only [minLen];omega)];unfold measE;rw [if_neg (by omega)];rfl
 · have:meas b=(0,0,6):=by unfold meas;rw [hd,if_neg (by omega),if_neg (by omega),if_pos (by omega)]
   rw [this];rfl
 · have:meas b=(0,0,4):=by unfold meas;rw [hd,if_neg (by omega),if_pos (by omega)];unfold measE;rw [if_pos (by omega)]
   rw [this];rfl
 have:meas b=(2,2+x.toNat,0):=by unfold meas;rw [hd,if_neg (by omega),if_pos (by omega)];unfold measE;rw [if_neg (by omega)]
 rw [this];rfl
theorem q7J(n:Nat):(byteOf (n:Int)).toNat=n%256:=by
 have h:=q1s (n:Int);have:IntKind.u8.wrap (n:Int)=((n%256:Nat):Int):=by simp [IntKind.wrap,IntKind.bits,IntKind.signed]
 rw [this] at h;unfold byteOf;rw [this]
 exact_mod_cast h
def takeE(tag:UInt8)(r:List UInt8):Nat:=if r.length=0 then 4 else if r.getD 0 0≠tag then 6 else (meas r).2.2
def takeC(r:List UInt8):List UInt8:=(r.take (meas r).2.1).drop (meas r).1
def takeN(r:List UInt8):Nat:=(meas r).2.1
theorem z1e{r:List UInt8}(h:(meas r).2.2=0):2≤(meas r).1∧(meas r).1≤(meas r).2.1∧(meas r).2.1≤r.length:=by
 have key:∀a n,(measE r a n).2.2=0→2≤a→a≤r.length→2≤(measE r a n).1∧(measE r a n).1≤(measE r a n).2.1∧(measE r a n).2.1≤r.length:=by
  intro a n h1 h2 h3;unfold measE at h1⊢;split at h1
  · cases h1
  rename_i hh;rw [if_neg hh];simp only;omega
 unfold meas at h⊢;repeat' split at h
 all_goals first| (cases h;done) |skip
 · rename_i g1 g2;rw [if_neg g1,if_pos g2];exact key _ _ h (by omega) (by omega)
 rename_i g1 g2 g3 g4 g5;rw [if_neg g1,if_neg g2,if_neg g3,if_neg g4,if_neg g5];exact key _ _ h (by omega) (by omega)
theorem z2j{t:UInt8}{r:List UInt8}(h:takeE t r=0):(meas r).2.2=0:=by
 unfold takeE at h;split at h
 · cases h
 split at h
 · cases h
 exact h
theorem q4z{t:UInt8}{r:List UInt8}(h:takeE t r=0):takeN r≤r.length:=(z1e (z2j h)).2.2
theorem q2O(r:List UInt8):(takeC r).length≤r.length:=by unfold takeC;rw [Al,Aj];omega

abbrev PR(α:Type):=List UInt8→Except Nat (α×Nat)
def rdP{α:Type}(tag:UInt8)(dec:List UInt8→Option α):PR α:=fun r=>
 if takeE tag r=0 then match dec (takeC r) with
  |some v=>.ok (v,takeN r)
  |none=>.error 6
 else .error (takeE tag r)
def allP{α:Type}(p:PR α)(c:List UInt8):Except Nat α:=match p c with
 |.error e=>.error e
 |.ok (v,m)=>if m<c.length then .error 6 else .ok v
def inP{α:Type}(tag:UInt8)(p:PR α):PR α:=fun r=>
 if takeE tag r=0 then match allP p (takeC r) with
  |.ok v=>.ok (v,takeN r)
  |.error e=>.error e
 else .error (takeE tag r)
def tagB(n:Nat):UInt8:=byteOf (160+n)
def nextB(n:Nat)(r:List UInt8):Bool:=decide (r.length≠0) && decide (r.getD 0 0=tagB n)
def needP{α:Type}(n:Nat)(p:PR α):PR α:=fun r=>
 if nextB n r then inP (tagB n) p r else .error (if r.length=0 then 4 else 6)
def bindP{α β:Type}(p:PR α)(f:α→PR β):PR β:=fun r=>match p r with
 |.error e=>.error e
 |.ok (v,k)=>match f v (r.drop k) with
  |.error e=>.error e
  |.ok (u,m)=>.ok (u,k+m)
def retP{α:Type}(v:α):PR α:=fun _=>.ok (v,0)
@[go_sem] abbrev rdr(b:List UInt8)(n:Nat):SObj:=.cells 111 [.isl .u8 b,rI n,.raw (.bool true)]
theorem z0N(b:List UInt8)(n:Nat)(hn:n≤b.length):PE Tryz.prog 98 [.ptr 0 0] [rdr b n] (.ret (.isl .u8 (b.drop n))) [rdr b n]:=by
 refine q0g (Ag _) ?_;refine rQ fi98 ?_;refine ⟨⟨by omega,hn,Ag _⟩,?_⟩
 rw [AE]
theorem q6B(b:List UInt8)(n:Nat)(hn:n≤b.length):PE Tryz.prog 67 [.ptr 0 0] [rdr b n] (.ret (rI ((b.length-n:Nat):Int))) [rdr b n]:=by
 refine q0g (Ag _) ?_;refine rQ fi67 ?_;refine eQ [0] (z0N b n hn) ?_;rw [Al]
theorem z8o(b:List UInt8)(n:Nat)(hn:n≤b.length):PE Tryz.prog 35 [.ptr 0 0] [rdr b n] (.ret (rI (if n<b.length then 5 else 0))) [rdr b n]:=by
 refine q0g (Ag _) ?_;refine rQ fi35 ?_;refine eQ [0] (q6B b n hn) ?_;refine ⟨fun h=> ?_,fun h=> ?_⟩
 · rw [if_pos (by omega)]
 rw [if_neg (by omega)]
theorem z6q(b:List UInt8):PE Tryz.prog 62 [.isl .u8 b] [] (.ret (.ptr 0 0)) [rdr b 0]:=by
 refine q0g (Ai _) ?_;refine rQ fi62 ?_;trivial
theorem z1y(b:List UInt8):PE Tryz.prog 101 [.isl .u8 b] [] (.ret (.tup [.ptr 0 0,rB true])) [rdr b 0]:=by
 refine q0g (Ai _) ?_;refine rQ fi101 ?_;refine eQ [] (z6q b) ?_;trivial
theorem z2q(tag:UInt8)(b:List UInt8)(n:Nat)(hn:n≤b.length)(hb:b.length≤1099511627776):
 PE Tryz.prog 133 [.ptr 0 0,.raw (.int .u8 tag.toNat)] [rdr b n] (.ret (.tup [.isl .u8 (if takeE tag (b.drop n)=0 then takeC (b.drop n) else []),rI (takeE tag (b.drop n))])) [rdr b (if takeE tag (b.drop n)=0 then n+takeN (b.drop n) else n)]:=by
 have hr:=z0N b n hn;have hlr:(b.drop n).length=b.length-n:=Al;have hm:=z6M (b.drop n) (by omega)
 have hok:= @q4z tag (b.drop n);generalize hR:b.drop n=r at*;have hE:takeE tag r=if r.length=0 then 4 else if r.getD 0 0≠tag then 6 else (meas r).2.2:=rfl;refine q0g (Ag _) ?_;refine rQ fi133 ?_;refine eQ [0] (hr) ?_;refine ⟨fun h=> ?_,fun h=> ?_⟩
 · rw [if_pos (by omega)] at hE
   rw [hE];exact ⟨⟨rfl,rfl⟩,rfl⟩
 rw [if_neg (by omega)] at hE
 refine ⟨by omega,fun h2=> ?_,fun h2=> ?_⟩
 · rw [if_pos (fun e=>h2 (by subst e;rfl))] at hE
   rw [hE];exact ⟨⟨rfl,rfl⟩,rfl⟩
 have:r.getD 0 0=tag:=by
  apply BF.1;have:((r.getD 0 Ty.u8.dflt).toNat:Int)=tag.toNat:=h2
  exact_mod_cast this
 rw [if_neg (by simpa using this)] at hE
 refine q0a hm ?_;unfold measV;refine gQ ?_;refine ⟨fun h3=> ?_,fun h3=> ?_⟩
 · have h3':¬(meas r).2.2=0:=by omega
   rw [hE,if_neg h3',if_neg h3'];exact ⟨⟨rfl,rfl⟩,rfl⟩
 have h3':(meas r).2.2=0:=by omega
 have hk:=z1e h3';rw [hE,if_pos h3',if_pos h3',wrapi (by omega),h3']
 exact ⟨⟨by omega,hk.2.1,Ag _,hk.2.2⟩,⟨rfl,rfl⟩,congrArg (Value.int .i64) (by unfold takeN;omega)⟩
theorem q6c(g:Nat)(tag:UInt8)(b:List UInt8)(n:Nat)(hn:n≤b.length)(hb:b.length≤1099511627776)(v:SV)(right:Bool)(hg:PC Tryz.prog g [.isl .u8 (takeC (b.drop n))] (.tup [v,rB right]))(hv:∃u,(v= .raw u)∨∃xs,v= .isl .u8 xs):
 PE Tryz.prog 103 [.ptr 0 0,.raw (.int .u8 tag.toNat),.fn g [] []] [rdr b n] (.ret (if takeE tag (b.drop n)=0 then (if right then .tup [v,rI 0] else .tup [.raw (.int .i64 0),rI 6]) else .tup [.raw (.int .i64 0),rI (takeE tag (b.drop n))])) [rdr b (if takeE tag (b.drop n)=0∧right=true then n+takeN (b.drop n) else n)]:=by
 have ht:=z2q tag b n hn hb;generalize takeE tag (b.drop n)=e at*;generalize takeC (b.drop n)=c at*;generalize takeN (b.drop n)=k at*;refine q0g (Ag _) ?_;refine rQ fi103 ?_;refine eQ [0] (ht) ?_;refine ⟨fun h=> ?_,fun h=> ?_⟩
 · have h':¬e=0:=by omega
   simp only [if_neg h',h',false_and,if_false];with_reducible refine sxE ?_;trivial
 obtain rfl:e=0:=by omega
 simp only [true_and,if_true];refine q0a hg ?_;obtain ⟨u,rfl| ⟨xs,rfl⟩⟩:=hv
 · cases right
   · refine uQ 600 _ ?_;simp (maxSteps:=3000000) only [A9,if_false,go_sem,↓zA,↓reduceIte,↓reduceDIte] <;>try simp only [zB]
   refine gQ ?_;trivial
 cases right
 · refine uQ 600 _ ?_;simp (maxSteps:=3000000) only [A9,if_false,go_sem,↓zA,↓reduceIte,↓reduceDIte] <;>try simp only [zB]
 refine gQ ?_;trivial
theorem q8a(g:Nat)(tag:UInt8)(b:List UInt8)(n:Nat)(hn:n≤b.length)(hb:b.length≤1099511627776)(v:SV)(right:Bool)(hg:PC Tryz.prog g [.isl .u8 (takeC (b.drop n))] (.tup [v,rB right]))(hv:∃u,(v= .raw u)∨∃xs,v= .isl .u8 xs):
 PE Tryz.prog 131 [.ptr 0 0,.raw (.int .u8 tag.toNat),.fn g [] []] [rdr b n] (.ret (if takeE tag (b.drop n)=0 then (if right then .tup [v,rI 0] else .tup [.isl .u8 [],rI 6]) else .tup [.isl .u8 [],rI (takeE tag (b.drop n))])) [rdr b (if takeE tag (b.drop n)=0∧right=true then n+takeN (b.drop n) else n)]:=by
 have ht:=z2q tag b n hn hb;generalize takeE tag (b.drop n)=e at*;generalize takeC (b.drop n)=c at*;generalize takeN (b.drop n)=k at*;refine q0g (Ag _) ?_;refine rQ fi131 ?_;refine eQ [0] (ht) ?_;refine ⟨fun h=> ?_,fun h=> ?_⟩
 · have h':¬e=0:=by omega
   simp only [if_neg h',h',false_and,if_false];with_reducible refine sxE ?_;trivial
 obtain rfl:e=0:=by omega
 simp only [true_and,if_true];refine q0a hg ?_;obtain ⟨u,rfl| ⟨xs,rfl⟩⟩:=hv
 · cases right
   · refine uQ 600 _ ?_;simp (maxSteps:=3000000) only [A9,if_false,go_sem,↓zA,↓reduceIte,↓reduceDIte] <;>try simp only [zB]
   refine gQ ?_;trivial
 cases right
 · refine uQ 600 _ ?_;simp (maxSteps:=3000000) only [A9,if_false,go_sem,↓zA,↓reduceIte,↓reduceDIte] <;>try simp only [zB]
 refine gQ ?_;trivial
theorem u8w(x:Int):IntKind.u8.wrap x=x%256:=by simp [IntKind.wrap,IntKind.bits,IntKind.signed]
theorem j2o(n:Nat):UInt8.ofNat (IntKind.u8.wrap ((n:Int).tmod 256)).toNat=byteOf n:=by
 unfold byteOf;rw [u8w,u8w,As (by omega),Int.emod_emod_of_dvd _ (by decide)]
theorem j4P(n:Nat)(k:Nat):(n:Int).tdiv k=((n / k:Nat):Int):=by
 rw [A8 (by omega)];rfl
theorem j3F(n:Nat)(k:Nat):(n:Int).fdiv k=((n / k:Nat):Int):=by
 rw [AV _ (by omega)];rfl
theorem z6i{v:Int}{n k:Nat}(h:k<n):(numS v n).take (k+1)=(numS v n).take k++ [byteAt v (n-1-k)]:=by
 rw [q2v (d:=0) (by simp [numS];omega)]
 congr 2;rw [Aa,Ae (by simp [numS];omega)]
 simp [numS]
def inR(v lo hi:Int):Bool:=decide (lo≤v) && decide (v≤hi)
end Go.Proofs.YtikapabgggphpaaGreatDoor
