/- Signed data: their encoding, reading, decoding. -/
import Derived.Test.YtmapiojgmbgbgaaGreatDoorR23
import Derived.Deep.Draws
import Derived.Sort.Grow
set_option linter.all false
namespace Go.Proofs.YtmapiojgmbgbgaaGreatDoor
open Go Go.Sx Go.Proofs
set_option maxRecDepth 100000
set_option maxHeartbeats 4000000
abbrev SgT:Ty:=.prod PacT (.prod KeyT KeyT)
abbrev Sgd:=SgT.den
theorem j3V(p:Int):PC Tryz.prog 167 [rI p] (rI (keyLen p)):=by
 refine q0w rfl rfl ?_;refine rQ fi167 ?_;refine q0a z6U ?_;by_cases h1:p=1
 · subst h1;refine uQ 600 _ ?_;simp (maxSteps:=3000000) only [kind1,keyLen,go_sem,↓zA,↓reduceIte,↓reduceDIte] <;>try simp only [zB]
 by_cases h2:p=2
 · subst h2;refine uQ 600 _ ?_;simp (maxSteps:=3000000) only [kind2,keyLen,go_sem,↓zA,↓reduceIte,↓reduceDIte] <;>try simp only [zB]
 refine uQ 600 _ ?_;simp (maxSteps:=3000000) only [h1,h2,keyLen,go_sem,↓zA,↓reduceIte,↓reduceDIte] <;>try simp only [zB]
theorem j0n(s:Key):PC Tryz.prog 113 [.agg (KeyT.cells s)] (rB (vKey s)):=by
 obtain ⟨p,v,b⟩:=s;have hk:=j3V p;unfold vKey;generalize keyLen p=n at*;refine q0w rfl rfl ?_;refine rQ fi113 ?_;refine cQ hk ?_
 grind
def vSgn(x:Sgd):Bool:=vPac x.1&& (vKey x.2.1&& vKey x.2.2)
theorem j3D(x:Sgd)(ho:SgT.ok x):PC Tryz.prog 53 [.agg (SgT.cells x)] (rB (vSgn x)):=by
 have h1:=q3T x.1 ho.1;have h2:=j0n x.2.1;have h3:=j0n x.2.2;unfold vSgn;generalize vPac x.1=v1 at*;generalize vKey x.2.1=v2 at*;generalize vKey x.2.2=v3 at*;obtain ⟨⟨c,a,u,g,w⟩,⟨p1,p2,p3⟩,⟨q1,q2,q3⟩⟩:=x;refine q0w rfl rfl ?_;refine rQ fi53 ?_;refine cQ (h1) ?_;refine ⟨fun h1=> ?_,fun h1=> ?_⟩
 rotate_left
 · first| (simp only [AJ,h1,AW,BN];done) |simp [AJ,h1]
 refine cQ (h2) ?_;refine ⟨fun h2=> ?_,fun h2=> ?_⟩
 rotate_left
 · first| (simp only [AJ,h2,AW,BN];done) |simp [AJ,h2]
 refine cQ h3 ?_;simp [*]
def sgnS(x:Sgd):List UInt8:=elemS 48 [wrapS 160 0 (pacS x.1),wrapS 160 1 (keyS x.2.1),wrapS 160 2 (keyS x.2.2)]
theorem j0s(x:Sgd)(ho:SgT.ok x)(hv:vSgn x=true):PC Tryz.prog 46 [.agg (SgT.cells x)] (.isl .u8 (sgnS x)):=by
 have h1:=q3U x.1 ho.1 (by simp only [vSgn,Ai] at hv;exact hv.1)
 clear hv;obtain ⟨p,k1,k2⟩:=x;have hE:sgnS (p,k1,k2)=elemS 48 [wrapS 160 0 (pacS p),wrapS 160 1 (keyS k1),wrapS 160 2 (keyS k2)]:=rfl;rw [hE];dsimp only at h1;generalize pacS p=w at*;have h2:=z0T k1;have h3:=z0T k2;generalize keyS k1=y1 at*;generalize keyS k2=y2 at*;obtain ⟨c,a,u,g,l⟩:=p;obtain ⟨p1,p2,p3⟩:=k1;obtain ⟨q1,q2,q3⟩:=k2;refine q0q rfl rfl ?_;refine rQ fi46 ?_;refine cR h1 ?_;refine cR (q1J _ _) ?_;refine cR h2 ?_;refine cR (q1J _ _) ?_;refine cR h3 ?_;refine cR (q1J _ _) ?_;refine q0I 1 (by decide) ?_
 with_reducible refine sxE ?_
 refine cR (q1T _ (by simp)) ?_;trivial
theorem z0g(v:Key):PC Tryz.prog 110 [.agg (KeyT.cells v),rI 0] (.agg (KeyT.cells v)):=by
 refine q0q rfl rfl ?_;refine rQ fi110 ?_;refine q0m (fun _=> ?_) fun h=>absurd h (by decide)
 refine gQ ?_;trivial
theorem q5T(e:Nat)(he:e≠0):PE Tryz.prog 110 [zKey,rI e] [] (.pan wrongV) []:=by
 refine q0b (by simp) ?_
 refine rQ fi110 ?_;refine q0m (fun h=>absurd h (by simp;omega)) fun _=> ?_
 with_reducible refine sxE ?_;trivial
@[go_sem] abbrev sdOb(cs:List SV):SObj:=.cells 84 cs
@[go_sem] abbrev sd0v:List SV:=[.raw (.slice none 0 0),rS ⟨#[]⟩,rI 0,rI 0,.raw (.slice none 0 0),.raw (.slice none 0 0),rI 0,rI 0,.raw (.slice none 0 0),rI 0,rI 0,.raw (.slice none 0 0)]
@[go_sem] abbrev sd1v(p:Pac):List SV:=[.isl .str p.1.1,rS p.1.2,rI p.2.1,rI p.2.2.1,.isl I64 p.2.2.2.1,.isl PrinT p.2.2.2.2,rI 0,rI 0,.raw (.slice none 0 0),rI 0,rI 0,.raw (.slice none 0 0)]
@[go_sem] abbrev sd2v(p:Pac)(k:Key):List SV:=[.isl .str p.1.1,rS p.1.2,rI p.2.1,rI p.2.2.1,.isl I64 p.2.2.2.1,.isl PrinT p.2.2.2.2,rI k.1,rI k.2.1,.isl .u8 k.2.2,rI 0,rI 0,.raw (.slice none 0 0)]
theorem z5r:Cln sd0v:=q0n (q0n (q0n (q0n (q0n (q0n (q0n (q0n (q0n (q0n (q0n (q0n q3b)))))))))))
theorem z6L(p:Pac):Cln (sd1v p):=q2f (q0n (q0n (q0n (q2f (q2f (q0n (q0n (q0n (q0n (q0n (q0n q3b)))))))))))
theorem z6r(p:Pac)(k:Key):Cln (sd2v p k):=q2f (q0n (q0n (q0n (q2f (q2f (q0n (q0n (q2f (q0n (q0n (q0n q3b)))))))))))
theorem j4m(b:List UInt8)(n:Nat)(hn:n≤b.length)(hb:b.length≤1099511627776):
 Eff Tryz.prog 108 [.agg [.ptr 0 0],.ptr 1 0] b n [sdOb sd0v] (fun _=>.tup []) (fun p:Pac=>[sdOb (sd1v p)]) (pacP (b.drop n)):=by
 have hr:=j3T b n hn hb;cases hx:pacP (b.drop n) with
 |error e=>
  have hr':=q2e hr hx;refine q0b (by simp) ?_
  refine rQ fi108 ?_;refine effP [0] (hr') ?_;trivial
 |ok x=>
  obtain ⟨v,k⟩:=x;have hr':=q1P hr hx;refine q0b (by simp) ?_
  refine rQ fi108 ?_;refine eQ [0] (hr') ?_;trivial
theorem j3W(b:List UInt8)(n:Nat)(hn:n≤b.length)(hb:b.length≤1099511627776)(p:Pac):
 Eff Tryz.prog 109 [.agg [.ptr 0 0],.ptr 1 0] b n [sdOb (sd1v p)] (fun _=>.tup []) (fun k:Key=>[sdOb (sd2v p k)]) (keyP (b.drop n)):=by
 have hr:=z3X b n hn hb;cases hx:keyP (b.drop n) with
 |error e=>
  have hr':=q6W hr hx;refine q0b (by simp) ?_
  refine rQ fi109 ?_;refine eQ [0] (hr') ?_;refine effP [] (q5T e (z7F _ _ hx)) ?_;trivial
 |ok x=>
  obtain ⟨v,k⟩:=x;have hr':=q7j hr hx;refine q0b (by simp) ?_
  refine rQ fi109 ?_;refine eQ [0] (hr') ?_;refine cQ (z0g _) ?_;trivial
theorem j3z(b:List UInt8)(n:Nat)(hn:n≤b.length)(hb:b.length≤1099511627776)(p:Pac)(a:Key):
 Eff Tryz.prog 112 [.agg [.ptr 0 0],.ptr 1 0] b n [sdOb (sd2v p a)] (fun _=>.tup []) (fun k:Key=>[sdOb (SgT.cells ((p,a,k):Sgd))]) (keyP (b.drop n)):=by
 have hr:=z3X b n hn hb;cases hx:keyP (b.drop n) with
 |error e=>
  have hr':=q6W hr hx;refine q0b (by simp) ?_
  refine rQ fi112 ?_;refine eQ [0] (hr') ?_;refine effP [] (q5T e (z7F _ _ hx)) ?_;trivial
 |ok x=>
  obtain ⟨v,k⟩:=x;have hr':=q7j hr hx;refine q0b (by simp) ?_
  refine rQ fi112 ?_;refine eQ [0] (hr') ?_;refine cQ (z0g _) ?_;trivial
def sgIn:PR Sgd:=bindP (needP 0 pacP) fun p=>bindP (needP 1 keyP) fun a=>bindP (needP 2 keyP) fun b=>retP ((p,a,b):Sgd)
def sgP:PR Sgd:=inP 48 sgIn
theorem z6i:FitsP sgIn:=q1F q0D fun _=>q1F q0D fun _=>q1F q0D fun _=>z0Z
theorem j4I(b:List UInt8)(n:Nat)(hn:n≤b.length)(hb:b.length≤1099511627776):
 Eff Tryz.prog 106 [.agg [.ptr 0 0],.ptr 1 0] b n [sdOb sd0v] (fun _=>.tup []) (fun p=>[sdOb (SgT.cells p)]) (sgIn (b.drop n)):=by
 refine z3R (fun _=>Af _) ?_;obtain ⟨X,hX0⟩:∃X,X=sgIn (b.drop n):=⟨_,rfl⟩;rw [←hX0];have hX:=hX0.trans z5V;clear hX0;unfold sgIn at hX;refine rQ fi106 ?_;have c1:=need1 108 0 (by omega) b (n) hn hb 84 _ z5r pacP q2j _ (fun p=>z6L p) (by have h:=j4m (takeC (b.drop (n))) 0 (Al _) (q1r hb);rwa [Ar] at h)
 rcases h1:needP 0 pacP (b.drop (n)) with e| ⟨v1,k1⟩
 · have c1':=q2e c1 h1;obtain rfl:=q3F hX h1;refine effP [0,1] (c1') ?_;trivial
 replace hX:=q3y hX h1;have c1':=q1P c1 h1;have f1:=q2u q0D hn h1;refine eQ [0,1] (c1') ?_;have c2:=need1 109 1 (by omega) b (n+k1) f1 hb 84 _ (z6L v1) keyP q2j _ (fun k=>z6r v1 k) (by have h:=j3W (takeC (b.drop (n+k1))) 0 (Al _) (q1r hb) v1;rwa [Ar] at h)
 rcases h2:needP 1 keyP (b.drop (n+k1)) with e| ⟨v2,k2⟩
 · have c2':=q2e c2 h2;obtain rfl:=q3F hX h2;refine effP [0,1] (c2') ?_;trivial
 replace hX:=q3y hX h2;have c2':=q1P c2 h2;have f2:=q2u q0D f1 h2;refine eQ [0,1] (c2') ?_;have c3:=need1 112 2 (by omega) b (n+k1+k2) f2 hb 84 _ (z6r v1 v2) keyP q2j _ (fun k=>z0t SgT (v1,v2,k)) (by have h:=j3z (takeC (b.drop (n+k1+k2))) 0 (Al _) (q1r hb) v1 v2;rwa [Ar] at h)
 rcases h3:needP 2 keyP (b.drop (n+k1+k2)) with e| ⟨v3,k3⟩
 · have c3':=q2e c3 h3;obtain rfl:=q3F hX h3;refine effP [0,1] (c3') ?_;trivial
 replace hX:=q3y hX h3;have c3':=q1P c3 h3;have f3:=q2u q0D f2 h3;refine eQ [0,1] (c3') ?_;subst hX;simp only [shiftP,retP];with_reducible refine sxE ?_
 exact congrArg (Value.int .i64) (by omega)
theorem j3I(b:List UInt8)(n:Nat)(hn:n≤b.length)(hb:b.length≤1099511627776):
 Eff Tryz.prog 52 [.agg [.ptr 0 0]] b n [] (fun p=>.agg (SgT.cells p)) (fun _=>[]) (sgP (b.drop n)):=by
 have h1:=j4I (takeC (b.drop n)) 0 (Al _) (q1r hb);rw [Ar] at h1;have hs:=sequence1 106 b n hn hb 84 _ z5r sgIn z6i (fun p=>SgT.cells p) (fun p=>z0t SgT p) h1;change Eff _ _ _ _ _ _ _ _ (sgP (b.drop n)) at hs;cases hx:sgP (b.drop n) with
 |error e=>
  have hm':=q2e hs hx;refine q0b (by simp) ?_
  refine rQ fi52 ?_;refine effP [0,2] (hm') ?_;trivial
 |ok x=>
  obtain ⟨v,q⟩:=x;have hm':=q1P hs hx;refine q0b (by simp) ?_
  refine rQ fi52 ?_;refine eQ [0,2] (hm') ?_;trivial
theorem j0r:OkP sgP SgT.ok:=q8A (q1N (q3d j1u) fun _ h0=>q1N (q3d z6C) fun _ h1=>q1N (q3d z6C) fun _ h2=>z2e ⟨h0,h1,h2⟩)
theorem q6l(o:SObj)(T:TypeId)(x:Value)(R:List SObj)(K:List SObj→Prop)(h:∀G,K (o :: .cells T [rI 6] :: (R++G))):DCall Tryz.prog 100 [.ptr 1 0] (some wrongV) (o :: .cells T [.raw x] :: R) K:=by
 refine recE mixed fi100 ?_;exact h _
theorem z8M(o o':SObj)(R:List SObj)(K:List SObj→Prop)(h:∀G,K (o :: o' :: (R++G))):DCall Tryz.prog 100 [.ptr 1 0] none (o :: o' :: R) K:=by
 refine recE mixed fi100 ?_;exact h _
def decSg(b:List UInt8):Option (SgT).den:=match allP sgP b with
 |.ok f=>if vSgn f=true∧sgnS f=b then some f else none
 |.error _=>none
theorem z4i(b:List UInt8)(hb:b.length≤1099511627776):PC Tryz.prog 51 [.isl .u8 b,.fn 52 [] [],.fn 53 [] [],.fn 46 [] []] (.tup [.agg ((SgT).cells ((decSg b).getD (SgT).dflt)),rI (if (decSg b).isSome then 0 else 6)]):=by
 have hnew:=j4s b (by omega)
 have hread:=j3I b 0 (Al _) hb;have hok:∀e m,sgP b= .ok (e,m)→(SgT).ok e:=fun e m h=>j0r b e m hb h;rw [Ar] at hread;refine q0q rfl rfl ?_;refine defE mixed fi51 ?_;refine gQ ?_;refine eQ [] (hnew) ?_;cases hx:sgP b with
 |error e=>
  have hd:decSg b=none:=by unfold decSg allP;rw [hx]
  have hr:=q2e hread hx;rw [hd];refine effP [2] (hr) ?_;refine ⟨by simp,q6l _ _ _ _ _ fun G=> ?_⟩
  with_reducible refine sxE ?_
  exact ⟨⟨rfl,rfl,rfl,rfl,rfl,rfl,rfl,rfl,rfl,rfl,rfl,rfl⟩,rfl⟩
 |ok x=>
  obtain ⟨e,m⟩:=x;have hr:=q1P hread hx;have heo:=hok e m hx;rw [Ac] at hr;refine eQ [2] (hr) ?_;have hfit:m≤b.length:=q2j _ _ _ hx;by_cases hm:m<b.length
  · have hd:decSg b=none:=by unfold decSg allP;rw [hx];simp [hm]
    rw [hd];refine effP [2] (z6T b m hm) ?_;refine ⟨by simp,q6l _ _ _ _ _ fun G=> ?_⟩
    with_reducible refine sxE ?_
    exact ⟨⟨rfl,rfl,rfl,rfl,rfl,rfl,rfl,rfl,rfl,rfl,rfl,rfl⟩,rfl⟩
  refine eQ [2] (z5C b m (by omega)) ?_
  refine q0a (j3D e heo) ?_;cases hv:vSgn e with
  |false=>
   have hd:decSg b=none:=by unfold decSg allP;rw [hx];simp [hm,hv]
   rw [hd];refine gQ ?_;refine q0m (fun h=>absurd h (by decide)) fun _=> ?_
   with_reducible refine sxE ?_
   refine ⟨by simp,q6l _ _ _ _ _ fun G=> ?_⟩
   with_reducible refine sxE ?_
   exact ⟨⟨rfl,rfl,rfl,rfl,rfl,rfl,rfl,rfl,rfl,rfl,rfl,rfl⟩,rfl⟩
  |true=>
   refine gQ ?_;refine cQ (j0s e heo hv) ?_;refine q0a (j2y _ _) ?_;by_cases he:sgnS e=b
   · have hd:decSg b=some e:=by unfold decSg allP;rw [hx];simp [hm,hv,he]
     rw [hd,decide_eq_true he];refine gQ ?_;refine cQ q3A ?_;refine z8M _ _ _ _ fun G=> ?_;with_reducible refine sxE ?_
     exact ⟨⟨rfl,rfl,rfl,rfl,rfl,rfl,rfl,rfl,rfl,rfl,rfl,rfl⟩,rfl⟩
   have hd:decSg b=none:=by unfold decSg allP;rw [hx];simp [hm,hv,he]
   rw [hd,decide_eq_false he];refine gQ ?_;refine q0m (fun h=>absurd h (by decide)) fun _=> ?_
   with_reducible refine sxE ?_
   refine ⟨by simp,q6l _ _ _ _ _ fun G=> ?_⟩
   with_reducible refine sxE ?_
   exact ⟨⟨rfl,rfl,rfl,rfl,rfl,rfl,rfl,rfl,rfl,rfl,rfl,rfl⟩,rfl⟩
abbrev inW(x:Int):Prop:=0≤x∧x<4294967296
def xorW(a b:Int):Int:=((a.toNat^^^ b.toNat:Nat):Int)
def andW(a b:Int):Int:=((a.toNat&&& b.toNat:Nat):Int)
def rotW(n:Nat)(x:Int):Int:=x / 2^ n+x*2^ (32-n)%4294967296
def chW(e f g:Int):Int:=xorW (andW e f) (andW (4294967295-e) g)
def majW(a b c:Int):Int:=xorW (xorW (andW a b) (andW a c)) (andW b c)
theorem q7u{a b:Int}(ha:inW a)(hb:inW b):inW (xorW a b):=by
 have:a.toNat^^^ b.toNat<2^ 32:=Nat.xor_lt_two_pow (by omega) (by omega)
 unfold xorW;omega
theorem q3K{a b:Int}(ha:inW a)(_:inW b):inW (andW a b):=by
 have:a.toNat&&& b.toNat≤a.toNat:=Nat.and_le_left;unfold andW;omega
theorem q3g{n:Nat}{x:Int}(h1:1≤n)(h2:n≤31)(hx:inW x):inW (rotW n x):=by
 obtain ⟨x,rfl⟩:∃m:Nat,x=m:=⟨x.toNat,by omega⟩
 unfold rotW;have hx':x<2^ n*2^ (32-n):=by rw [←CP,show n+ (32-n)=32 by omega];omega
 have e1:((x:Int) / 2^ n)=((x / 2^ n:Nat):Int):=by simp
 have e2:((x:Int)*2^ (32-n)%4294967296)=((x*2^ (32-n)%4294967296:Nat):Int):=by simp
 rw [e1,e2];have h3:x / 2^ n<2^ (32-n):=Nat.div_lt_of_lt_mul hx';have h4:x*2^ (32-n)%4294967296=(x%2^ n)*2^ (32-n):=by
  have:(4294967296:Nat)=2^ n*2^ (32-n):=by rw [←CP,show n+ (32-n)=32 by omega]
  rw [this,Nat.mul_mod_mul_right]
 have h5:x%2^ n<2^ n:=Nat.mod_lt _ (Nat.two_pow_pos n);have h6:(x%2^ n+1)*2^ (32-n)≤2^ n*2^ (32-n):=AV _ h5;rw [←CP,show n+ (32-n)=32 by omega,Nat.add_mul] at h6
 rw [h4];generalize x / 2^ n=u at*;generalize x%2^ n*2^ (32-n)=v at*;generalize 2^ (32-n)=w at*;clear e1 e2 h4 h5 hx';omega
theorem z8K{k:IntKind}{a b:Int}(hk:32≤k.bits)(ha:inW a)(hb:inW b):((BitVec.ofInt k.bits a^^^ BitVec.ofInt k.bits b).toNat:Int)=xorW a b:=by
 obtain ⟨a,rfl⟩:∃m:Nat,a=m:=⟨a.toNat,by omega⟩
 obtain ⟨b,rfl⟩:∃m:Nat,b=m:=⟨b.toNat,by omega⟩
 have hp:2^ 32≤2^ k.bits:=Bq (by decide) hk
 unfold xorW;rw [BitVec.toNat_xor,AH,AH,AP,AP,AL (by omega),AL (by omega)]
 rfl
theorem j0b{k:IntKind}{a b:Int}(hk:32≤k.bits)(ha:inW a)(hb:inW b):((BitVec.ofInt k.bits a&&& BitVec.ofInt k.bits b).toNat:Int)=andW a b:=by
 obtain ⟨a,rfl⟩:∃m:Nat,a=m:=⟨a.toNat,by omega⟩
 obtain ⟨b,rfl⟩:∃m:Nat,b=m:=⟨b.toNat,by omega⟩
 have hp:2^ 32≤2^ k.bits:=Bq (by decide) hk
 unfold andW;rw [BitVec.toNat_and,AH,AH,AP,AP,AL (by omega),AL (by omega)]
 rfl
theorem w32{a:Int}(ha:inW a):IntKind.u32.wrap a=a:=by
 have h:IntKind.u32.wrap a=a%4294967296:=rfl;rw [h];omega
theorem xor32{a b:Int}(ha:inW a)(hb:inW b):xorK .u32 a b=xorW a b:=by unfold xorK;rw [z8K (by decide) ha hb,w32 (q7u ha hb)]
theorem and32{a b:Int}(ha:inW a)(hb:inW b):andK .u32 a b=andW a b:=by unfold andK;rw [j0b (by decide) ha hb,w32 (q3K ha hb)]

abbrev W32:Int:=4294967296
def byI(b:List UInt8)(j:Nat):Int:=((b.getD j 0).toNat:Int)
theorem j3C(b:List UInt8)(j:Nat):0≤byI b j∧byI b j<256:=by
 have:=(b.getD j 0).toNat_lt;unfold byI;omega
def wdP(b:List UInt8)(t:Nat):Nat→Int
 |0=>0
 |i+1=>256*wdP b t i+byI b (4*t+i)
theorem j0D(b:List UInt8)(t:Nat):∀i,i≤4→inW (wdP b t i)∧wdP b t i<256^ i
 |0,_=>by simp [wdP,inW]
 |i+1,hi=>by
  have:=j0D b t i (by omega)
  have hb:=j3C b (4*t+i);have h3:i=0∨i=1∨i=2∨i=3:=by omega
  rcases h3 with rfl|rfl|rfl|rfl<;> (simp only [wdP] at*;simp at*;omega)
def sg0(x:Int):Int:=xorW (xorW (rotW 7 x) (rotW 18 x)) (x / 8)
def sg1(y:Int):Int:=xorW (xorW (rotW 17 y) (rotW 19 y)) (y / 1024)
def wS(b:List UInt8)(t:Nat):Int:=if h:t<16 then wdP b t 4 else (sg1 (wS b (t-2))+wS b (t-7)+sg0 (wS b (t-15))+wS b (t-16))%W32
termination_by t
theorem z4j{b:List UInt8}{t:Nat}(h:t<16):wS b t=wdP b t 4:=by rw [wS,dif_pos h]
theorem z4s{b:List UInt8}{t:Nat}(h:16≤t):wS b t=(sg1 (wS b (t-2))+wS b (t-7)+sg0 (wS b (t-15))+wS b (t-16))%W32:=by rw [wS,dif_neg (by omega)]
theorem q2O(b:List UInt8)(t:Nat):inW (wS b t):=by
 rcases AB t 16 with h|h
 · rw [z4j h];exact (j0D b t 4 (Af _)).1
 rw [z4s h];unfold inW W32;omega
def wL(b:List UInt8)(t:Nat):List Int:=(List.range 64).map fun j=>if j<t then wS b j else 0
theorem q4e(b:List UInt8)(t:Nat):(wL b t).length=64:=by simp [wL]
theorem q1j(b:List UInt8){t j:Nat}(h:j<t)(h2:j<64):(wL b t).getD j 0=wS b j:=by
 simp [wL,Ad,h2,h]
theorem q4f(b:List UInt8){t:Nat}(h:t<64):(wL b t).set t (wS b t)=wL b (t+1):=by
 apply AO
 · simp [wL]
 intro j h1 h2;simp [wL] at h1 h2;rw [BJ];simp only [wL,AZ,AU];split
 · subst_vars;rw [if_pos (by omega)]
 rename_i hne;by_cases hj:j<t
 · rw [if_pos hj,if_pos (by omega)]
 rw [if_neg hj,if_neg (by omega)]
theorem q6O(b:List UInt8):wL b 0=List.replicate 64 0:=by
 unfold wL;rw [List.eq_replicate_iff];refine ⟨by rw [Bc,B2],fun x hx=> ?_⟩
 obtain ⟨j,_,rfl⟩:=BX.1 hx;exact if_neg (BF _)
def kS(t:Nat):Int:=dat_ref04_constants.getD t 0
def bs1(e:Int):Int:=xorW (xorW (rotW 6 e) (rotW 11 e)) (rotW 25 e)
def bs0(a:Int):Int:=xorW (xorW (rotW 2 a) (rotW 13 a)) (rotW 22 a)
def t1S(k w:Int)(v:List Int):Int:=v.getD 7 0+bs1 (v.getD 4 0)+chW (v.getD 4 0) (v.getD 5 0) (v.getD 6 0)+k+w
def t2S(v:List Int):Int:=bs0 (v.getD 0 0)+majW (v.getD 0 0) (v.getD 1 0) (v.getD 2 0)
def rnd(k w:Int)(v:List Int):List Int:=
 [(t1S k w v+t2S v)%W32,v.getD 0 0,v.getD 1 0,v.getD 2 0,(v.getD 3 0+t1S k w v)%W32,v.getD 4 0,v.getD 5 0,v.getD 6 0]
def rnds(b:List UInt8)(h:List Int):Nat→List Int
 |0=>h
 |t+1=>rnd (kS t) (wS b t) (rnds b h t)
abbrev inWs(v:List Int):Prop:=v.length=8∧∀x∈v,inW x
theorem q0h{v:List Int}(h:inWs v)(i:Nat)(hi:i<8):inW (v.getD i 0):=by
 rw [Ad,Ab (by omega)]
 exact h.2 _ (BV _)
theorem j3R{k w:Int}{v:List Int}(h:inWs v):inWs (rnd k w v):=by
 refine ⟨rfl,fun x hx=> ?_⟩;have hm:∀y:Int,inW (y%W32):=fun y=>by unfold inW W32;omega
 simp only [rnd,Bs,List.not_mem_nil,or_false] at hx;rcases hx with rfl|rfl|rfl|rfl|rfl|rfl|rfl|rfl
 · exact hm _
 · exact q0h h 0 (by decide)
 · exact q0h h 1 (by decide)
 · exact q0h h 2 (by decide)
 · exact hm _
 · exact q0h h 4 (by decide)
 · exact q0h h 5 (by decide)
 exact q0h h 6 (by decide)
theorem q1x{b:List UInt8}{h:List Int}(hh:inWs h):∀t,inWs (rnds b h t)
 |0=>hh
 |t+1=>j3R (q1x hh t)
def blkS(b:List UInt8)(h:List Int):List Int:=(List.range 8).map fun i=>(h.getD i 0+ (rnds b h 64).getD i 0)%W32
def blkP(b:List UInt8)(h:List Int)(n:Nat):List Int:=(List.range 8).map fun i=>if i<n then (h.getD i 0+ (rnds b h 64).getD i 0)%W32 else h.getD i 0
end Go.Proofs.YtmapiojgmbgbgaaGreatDoor
namespace Go.Sx
open Go

variable {P:Program}
def PCE(P:Program)(f:FuncId)(args:List SV)(p:SV→Prop):Prop:=enters P f=true∧∀ (H:List SObj) (K:Out→List SObj→Prop),(∀s,p s→K (.ret s) H)→VCall P f args H K
theorem PCE.mono{f:FuncId}{args:List SV}{p q:SV→Prop}(h:PCE P f args p)(hq:∀s,p s→q s):PCE P f args q:=⟨h.1,fun H K hk=>h.2 H K fun s hs=>hk s (hq s hs)⟩
section
variable [Ghost] {AQ:Ex→List SV→List SObj→Prop}
end

section
variable {AQ:Ex→List SV→List SObj→Prop}
theorem q3q[Ghost]{b:Nat}{t:Ty}{x:t.den}{ag:Option Nat}{s:SV}{d:Option Tmp}{m:IM}(hm:(b,(⟨t,x⟩:Sigma Ty.den))∈datList)(hs:SV.ofT ag t x=some s)(ha:ag=none∨ag=some t.size)(hk:SoundI P AQ {m with tmps:=putT m.tmps d s}):ZldI P AQ ag b 0 d m:=by
 rintro E C _ ⟨⟨ht,_⟩,_⟩;exact ⟨s,.inr ⟨t,x,(ht.dat _ hm).2,hs,ha⟩,hk⟩
end
end Go.Sx
namespace Go.Proofs.YtmapiojgmbgbgaaGreatDoor
open Go Go.Sx Go.Proofs
set_option maxRecDepth 100000
set_option maxHeartbeats 40000000
theorem fdivW(x:Int)(n:Nat)(hn:0<n):x.fdiv (n:Int)=x / (n:Int):=A8 _ (by omega)
theorem q4T(b:List UInt8)(h:List Int)(n:Nat):(blkP b h n).length=8:=by simp [blkP]
theorem q4O(b:List UInt8)(h:List Int){i:Nat}(hi:i<8):(blkP b h i).getD i 0=h.getD i 0:=by
 simp [blkP,Ad,hi]
theorem q5b(b:List UInt8)(h:List Int){i:Nat}(hi:i<8):(blkP b h i).set i ((h.getD i 0+ (rnds b h 64).getD i 0)%W32)=blkP b h (i+1):=by
 apply AO
 · simp [blkP]
 intro j h1 h2;rw [BJ];simp only [blkP,AZ,AU];split
 · subst_vars;rw [if_pos (by omega)]
 rename_i hne;by_cases hj:j<i
 · rw [if_pos hj,if_pos (by omega)]
 rw [if_neg hj,if_neg (by omega)]
theorem q3w(b:List UInt8){h:List Int}(hl:h.length=8):blkP b h 0=h:=by
 apply AO
 · simp [blkP,hl]
 intro j h1 h2;simp only [blkP,AZ,AU];rw [if_neg (BF _),Ad,Ab h2];rfl
theorem q4I(b:List UInt8)(h:List Int):blkP b h 8=blkS b h:=by
 apply AO
 · simp [blkP,blkS]
 intro j h1 h2;simp [blkP] at h1;simp only [blkP,blkS,AZ,AU];rw [if_pos h1]
theorem u8wrapR(x:Int):IntKind.u8.wrap x=x%256:=by simp [IntKind.wrap,IntKind.bits,IntKind.signed]
theorem q2F(x:Int):((UInt8.ofNat (IntKind.u8.wrap x).toNat).toNat:Int)=IntKind.u8.wrap x:=by
 have:=u8wrapR x;rw [Cr];omega
def padZ(b:List UInt8)(k:Nat):List UInt8:=b++ [128]++List.replicate k 0
def padN(n:Nat):Nat:=(119-n%64)%64
theorem z9f(b:List UInt8)(k:Nat):(padZ b k).length=b.length+1+k:=by simp [padZ];omega
def lnB8(n:Nat)(j:Nat):List UInt8:=(List.range j).map fun i=>UInt8.ofNat (n / 2^ (8* (7-i))%256)
theorem z8G(n j:Nat):(lnB8 n j).length=j:=by simp [lnB8]
def padS(b:List UInt8):List UInt8:=padZ b (padN b.length)++lnB8 (8*b.length) 8
def hS0:List Int:=[0x6a09e667,0xbb67ae85,0x3c6ef372,0xa54ff53a,0x510e527f,0x9b05688c,0x1f83d9ab,0x5be0cd19]
def hashS(p:List UInt8):Nat→List Int
 |0=>hS0
 |k+1=>blkS ((p.take (64*k+64)).drop (64*k)) (hashS p k)
theorem z1A{b:List UInt8}{h:List Int}:inWs (blkS b h):=by
 refine ⟨by simp [blkS],fun x hx=> ?_⟩
 obtain ⟨i,_,rfl⟩:=BX.1 hx;unfold inW W32;omega
theorem q6a:inWs hS0:=by decide
def wordB(h:List Int)(i:Nat):UInt8:=UInt8.ofNat ((h.getD (i / 4) 0).toNat / 2^ (24-8* (i%4))%256)
def bytesP(h:List Int)(n:Nat):List UInt8:=(List.range 32).map fun i=>if i<n then wordB h i else 0
def bytesS(h:List Int):List UInt8:=(List.range 32).map (wordB h)
theorem q8o(h:List Int)(n:Nat):(bytesP h n).length=32:=by simp [bytesP]
theorem q1p(h:List Int):(bytesS h).length=32:=by simp [bytesS]
theorem q3W(h:List Int){i:Nat}(hi:i<32):(bytesP h i).set i (wordB h i)=bytesP h (i+1):=by
 apply AO
 · simp [bytesP]
 intro j h1 h2;rw [BJ];simp only [bytesP,AZ,AU];split
 · subst_vars;rw [if_pos (by omega)]
 rename_i hne;by_cases hj:j<i
 · rw [if_pos hj,if_pos (by omega)]
 rw [if_neg hj,if_neg (by omega)]
theorem z4N(h:List Int):bytesP h 32=bytesS h:=by
 apply AO
 · simp [bytesP,bytesS]
 intro j h1 h2;simp [bytesP] at h1;simp only [bytesP,bytesS,AZ,AU];rw [if_pos h1]
def blksN(b:List UInt8):Nat:=(b.length+72) / 64
def shaS(b:List UInt8):List UInt8:=bytesS (hashS (padS b) (blksN b))
theorem xor8(a b:UInt8):xorK .u8 (a.toNat:Int) (b.toNat:Int)=((a^^^ b).toNat:Int):=by
 unfold xorK;have ha:=a.toNat_lt;have hb:=b.toNat_lt;have hx:a.toNat^^^ b.toNat<2^ 8:=Nat.xor_lt_two_pow ha hb;have e:(BitVec.ofInt IntKind.u8.bits (a.toNat:Int) ^^^ BitVec.ofInt IntKind.u8.bits (b.toNat:Int)).toNat=a.toNat^^^ b.toNat:=by
  rw [BitVec.toNat_xor,AH,AH,AP,AP];rw [show 2^ IntKind.u8.bits=256 from rfl,AL ha,AL hb]
 rw [e,u8wrapR,UInt8.toNat_xor];omega
def hkP(k:List UInt8)(c:UInt8)(n:Nat):List UInt8:=(List.range 64).map fun i=>if i<n then k.getD i 0^^^ c else 0
def hkC(k:List UInt8):List UInt8:=if 64<k.length then shaS k else k
def hkS(k:List UInt8)(c:UInt8):List UInt8:=hkP (hkC k) c 64
theorem q9R(k:List UInt8)(c:UInt8)(n:Nat):(hkP k c n).length=64:=by simp [hkP]
theorem j2c(k:List UInt8)(c:UInt8){i:Nat}(hi:i<64):(hkP k c i).set i (k.getD i 0^^^ c)=hkP k c (i+1):=by
 apply AO
 · simp [hkP]
 intro j h1 h2;rw [BJ];simp only [hkP,AZ,AU];split
 · subst_vars;rw [if_pos (by omega)]
 rename_i hne;by_cases hj:j<i
 · rw [if_pos hj,if_pos (by omega)]
 rw [if_neg hj,if_neg (by omega)]
theorem z8N(k:List UInt8)(c:UInt8):hkP k c 0=List.replicate 64 0:=by
 unfold hkP;rw [List.eq_replicate_iff];refine ⟨by rw [Bc,B2],fun x hx=> ?_⟩
 obtain ⟨j,_,rfl⟩:=BX.1 hx;exact if_neg (BF _)
theorem rotS:∀n:Nat,n<32→1≤n→andK .u64 (IntKind.u64.wrap (-(n:Int))) 31=((32-n:Nat):Int):=by decide
theorem rotU:∀n:Nat,n<32→1≤n→IntKind.u64.wrap (32- ((32-n:Nat):Int))=(n:Int):=by decide
theorem j3c(m n:Nat)(h1:1≤n)(h2:n≤31)(hm:m<4294967296):((BitVec.ofInt 32 (IntKind.u32.wrap ((m:Int)*2^ (32-n))) |||BitVec.ofInt 32 ((m:Int).fdiv (2^ n))).toNat:Int)=rotW n m:=by
 have e1:IntKind.u32.wrap ((m:Int)*2^ (32-n))=((m*2^ (32-n)%4294967296:Nat):Int):=by
  have h:∀y:Int,IntKind.u32.wrap y=y%4294967296:=fun y=>rfl;rw [h];simp
 have e2:((m:Int).fdiv (2^ n))=((m / 2^ n:Nat):Int):=by
  rw [A8 _ (by exact_mod_cast Al (2^ n))];simp
 have h4:m*2^ (32-n)%4294967296=2^ (32-n)* (m%2^ n):=by
  have:(4294967296:Nat)=2^ n*2^ (32-n):=by rw [←CP,show n+ (32-n)=32 by omega]
  rw [this,Nat.mul_mod_mul_right,Cz]
 have hm':m<2^ n*2^ (32-n):=by rw [←CP,show n+ (32-n)=32 by omega];omega
 have h3:m / 2^ n<2^ (32-n):=Nat.div_lt_of_lt_mul hm';have h5:m / 2^ n≤m:=Nat.div_le_self _ _;have h6:m*2^ (32-n)%4294967296<4294967296:=Nat.mod_lt _ (by decide)
 rw [e1,e2,Cn,AH,AH,AP,AP,AL (a:=m*2^ (32-n)%4294967296) (b:=2^ 32) h6,AL (a:=m / 2^ n) (b:=2^ 32) (Nat.lt_of_le_of_lt h5 hm),h4,←CL h3];unfold rotW;have e3:((m:Int)*2^ (32-n)%4294967296)=((m*2^ (32-n)%4294967296:Nat):Int):=by simp
 have e4:((m:Int) / 2^ n)=((m / 2^ n:Nat):Int):=by simp
 rw [e3,e4,h4,Int.natCast_add,Int.add_comm]
theorem j2Z(x:Int)(n:Nat)(h1:1≤n)(h2:n≤31)(hx:inW x):PC Tryz.prog 307 [.raw (.int .u32 x),.raw (.int .i64 (-(n:Int)))] (.raw (.int .u32 (rotW n x))):=by
 have e0:=rotS n (by omega) h1
 have e5:=rotU n (by omega) h1
 refine q0w rfl rfl ?_;refine rQ fi307 ?_;unfold orK;rw [e0,e5,B3,B3,Bg (by omega),Bg (by omega)]
 obtain ⟨m,rfl⟩:∃m:Nat,x=m:=⟨x.toNat,by omega⟩
 refine ⟨by omega,?_⟩
 have h:=j3c m n h1 h2 (by omega)
 have hw:=q3g h1 h2 hx;refine congrArg (Value.int .u32) ?_;refine (congrArg IntKind.u32.wrap h).trans (w32 hw)
def turnS(x:Int)(ns:List Nat):Nat→Int
 |0=>0
 |i+1=>xorW (turnS x ns i) (rotW (ns.getD i 1) x)
theorem z2M{x:Int}{ns:List Nat}(hx:inW x)(hn:∀n∈ns,1≤n∧n≤31):∀i,inW (turnS x ns i)
 |0=>by simp [turnS,inW]
 |i+1=>by
  have h:1≤ns.getD i 1∧ns.getD i 1≤31:=by
   rcases AB i ns.length with h|h
   · rw [Ad,Ab h];exact hn _ (BV _)
   rw [Ad,AT h];decide
  exact q7u (z2M hx hn i) (q3g h.1 h.2 hx)
theorem q0M(x:Int)(ns:List Nat)(hx:inW x)(hn:∀n∈ns,1≤n∧n≤31)(hl:ns.length≤64):PC Tryz.prog 298 [.raw (.int .u32 x),.isl (.int .i64) (ns.map fun (n:Nat)=>(n:Int))] (.raw (.int .u32 (turnS x ns ns.length))):=by
 refine q0w rfl rfl ?_;have hml:(ns.map fun (n:Nat)=>(n:Int)).length=ns.length:=Bc ..;refine rQ fi298 ?_;refine q0x (ι:=Nat) (fun i=>[(4,.raw (.int .u32 (turnS x ns i))),(9,rI i)]) (fun i=>[]) (fun i=>ns.length-i) (fun i=>i≤ns.length) 0 (Al _) rfl ?_ ?_
 · with_reducible refine sxE ?_
   rfl
 intro i hi;have hwr:=wsx i (by omega)
 by_cases h:i<ns.length
 · have hg:(ns.map fun (n:Nat)=>(n:Int)).getD i 0=((ns.getD i 1:Nat):Int):=by
    rw [Ad,Ab (by omega),Ad,Ab h];simp
   have hr:1≤ns.getD i 1∧ns.getD i 1≤31:=by
    rw [Ad,Ab h];exact hn _ (BV _)
   have hneg:IntKind.i64.wrap (0- ((ns.getD i 1:Nat):Int))= -((ns.getD i 1:Nat):Int):=by rw [IntWalk.i64_in _ (by omega)];omega
   refine gyd4 hml hg hneg Ac ?_;refine ⟨fun _=>⟨⟨by omega,h⟩,q0a (j2Z _ _ hr.1 hr.2 hx) ?_⟩,fun hh=>absurd h hh⟩
   have hxi:=z2M hx hn i;have hxo:=xor32 hxi (q3g hr.1 hr.2 hx);refine gy1 hxo ?_;refine ⟨i+1,h,by dsimp only;omega,rfl,?_⟩
   with_reducible refine sx1 hwr ?_
   rfl
 obtain rfl:i=ns.length:=by omega
 refine gy1 hml ?_;exact ⟨fun h=>absurd h (by omega),fun _=>trivial⟩
theorem byteU(x:Int)(m:Nat)(hx:inW x)(hm:m≤32):UInt8.ofNat (IntKind.u8.wrap (x.fdiv (2^ min m 32))).toNat=UInt8.ofNat (x.toNat / 2^ m%256):=by
 obtain ⟨n,rfl⟩:∃n:Nat,x=n:=⟨x.toNat,by omega⟩
 have e:((n:Int).fdiv (2^ m))=((n / 2^ m:Nat):Int):=by
  rw [A8 _ (by exact_mod_cast Al (2^ m))]
  simp
 rw [Bg hm,e,B3];generalize n / 2^ m=m;rw [u8wrapR];congr 1
theorem byteU0(x:Int)(hx:inW x):UInt8.ofNat (IntKind.u8.wrap x).toNat=UInt8.ofNat (x.toNat / 2^ 0%256):=by
 rw [u8wrapR];congr 1;rw [Nat.pow_zero,Nat.div_one];omega
theorem wordB4(h:List Int)(i j:Nat)(hj:j<4):wordB h (4*i+j)=UInt8.ofNat ((h.getD i 0).toNat / 2^ (24-8*j)%256):=by
 unfold wordB;rw [show (4*i+j) / 4=i by omega,show (4*i+j)%4=j by omega]
theorem bytesP4(h:List Int){i:Nat}(hi:i<8):((((bytesP h (4*i)).set (4*i) (UInt8.ofNat ((h.getD i 0).toNat / 2^ 24%256))).set (4*i+1) (UInt8.ofNat ((h.getD i 0).toNat / 2^ 16%256))).set (4*i+2) (UInt8.ofNat ((h.getD i 0).toNat / 2^ 8%256))).set (4*i+3) (UInt8.ofNat ((h.getD i 0).toNat / 2^ 0%256))=bytesP h (4* (i+1)):=by
 rw [show UInt8.ofNat ((h.getD i 0).toNat / 2^ 24%256)=wordB h (4*i) from (wordB4 h i 0 (by decide)).symm,q3W h (by omega),
  show UInt8.ofNat ((h.getD i 0).toNat / 2^ 16%256)=wordB h (4*i+1) from (wordB4 h i 1 (by decide)).symm,q3W h (by omega),
  show UInt8.ofNat ((h.getD i 0).toNat / 2^ 8%256)=wordB h (4*i+2) from (wordB4 h i 2 (by decide)).symm,q3W h (by omega),
  show UInt8.ofNat ((h.getD i 0).toNat / 2^ 0%256)=wordB h (4*i+3) from (wordB4 h i 3 (by decide)).symm,q3W h (by omega)]
 rfl
theorem z6t(h:List Int)(hh:inWs h):PC Tryz.prog 283 [.dat (.arr 8 (.int .u32)) h] (.dat (.arr 32 .u8) (bytesS h)):=by
 refine q0w rfl rfl ?_;refine rQ fi283 ?_;have hl:=hh.1;have htk:List.take 8 h=h:=Ah (by omega)
 refine ⟨by omega,?_⟩
 rw [htk];refine q0x (ι:=Nat) (fun i=>[(6,rI i)]) (fun i=>[.row (.int .u32) h,.row .u8 (bytesP h (4*i))]) (fun i=>8-i) (fun i=>i≤8) 0 (Al _) rfl ?_ ?_
 · with_reducible refine sxE ?_;trivial
 intro i hi;have hwr:=wsx i (by omega)
 have hbl:=q8o h (4*i);by_cases h8:i<8
 · have hx:=q0h hh i h8;have w0:IntKind.i64.wrap (4* (i:Int))=((4*i:Nat):Int):=by rw [wrapi (by omega)];omega
   have w1:IntKind.i64.wrap (((4*i:Nat):Int)+1)=((4*i+1:Nat):Int):=q2U (by omega)
   have w2:IntKind.i64.wrap (((4*i:Nat):Int)+2)=((4*i+2:Nat):Int):=by rw [wrapi (by omega)];omega
   have w3:IntKind.i64.wrap (((4*i:Nat):Int)+3)=((4*i+3:Nat):Int):=by rw [wrapi (by omega)];omega
   refine uQ 600 _ ?_;simp (maxSteps:=3000000) only [hl,hbl,w0,w1,w2,w3,BD,Ac,Ty.dflt,go_sem,↓zA,↓reduceIte,↓reduceDIte] <;>try simp only [zB]
   refine ⟨fun _=>⟨⟨by omega,by omega⟩,⟨by omega,by omega⟩,⟨by omega,q2F _⟩,⟨by omega,by omega⟩,⟨by omega,q2F _⟩,⟨by omega,by omega⟩,⟨by omega,q2F _⟩,⟨by omega,by omega⟩,⟨by omega,q2F _⟩,i+1,h8,by dsimp only;omega,?_,?_⟩,fun h=>absurd h (by omega)⟩
   · rw [byteU _ 24 hx (by decide),byteU _ 16 hx (by decide),byteU _ 8 hx (by decide),byteU0 _ hx]
     show _= [SObj.row (.int .u32) h,SObj.row .u8 (bytesP h (4* (i+1)))];rw [←bytesP4 h h8]
   with_reducible refine sx1 hwr ?_;trivial
 obtain rfl:i=8:=by omega
 refine gy3 hl hbl Ac ?_;refine ⟨fun h=>absurd h (by omega),fun _=> ?_⟩
 have e:List.take 32 (bytesP h 32)++List.drop (List.take 32 (bytesP h 32)).length (bytesP h 32)=bytesS h:=by
  have hbl:(bytesP h 32).length=32:=q8o h 32;rw [Ah (by omega),hbl,AY (by omega),Aj,z4N]
 have el:(bytesS h).length=32:=q1p _;rw [e,if_pos el];exact ⟨_,rfl,rfl⟩
abbrev HH:Ty:=.prod (.arr 8 (.int .u32)) (.prod (.arr 64 .u8) (.int .i64))
abbrev MH:Ty:=.prod (.prod (.arr 64 .u8) (.arr 64 .u8)) (.prod HH .bool)
theorem orW{a b:Nat}{k:Nat}(hb:b<2^ k)(h:2^ k*a+b<4294967296):orK .u32 ((2^ k*a:Nat):Int) (b:Int)=((2^ k*a+b:Nat):Int):=by
 unfold orK;have h1:(BitVec.ofInt IntKind.u32.bits ((2^ k*a:Nat):Int) |||BitVec.ofInt IntKind.u32.bits (b:Int)).toNat=2^ k*a+b:=by
  rw [Cn,AH,AH,AP,AP];rw [show 2^ IntKind.u32.bits=4294967296 from rfl,AL (a:=2^ k*a) (by omega),AL (a:=b) (by omega),←CL hb]
 rw [h1];exact w32 (by constructor<;>omega)
theorem u32n(n:Nat)(h:n<4294967296):IntKind.u32.wrap (n:Int)=(n:Int):=w32 (by constructor<;>omega)
theorem or4(c:Nat→UInt8):orK .u32 (orK .u32 (orK .u32 (IntKind.u32.wrap (IntKind.u32.wrap ((c 0).toNat:Int)*2^ min 24 32)) (IntKind.u32.wrap (IntKind.u32.wrap ((c 1).toNat:Int)*2^ min 16 32))) (IntKind.u32.wrap (IntKind.u32.wrap ((c 2).toNat:Int)*2^ min 8 32))) (IntKind.u32.wrap ((c 3).toNat:Int))=((256* (256* (256* (c 0).toNat+ (c 1).toNat)+ (c 2).toNat)+ (c 3).toNat:Nat):Int):=by
 have h0:=(c 0).toNat_lt;have h1:=(c 1).toNat_lt;have h2:=(c 2).toNat_lt;have h3:=(c 3).toNat_lt;generalize (c 0).toNat=a0 at*;generalize (c 1).toNat=a1 at*;generalize (c 2).toNat=a2 at*;generalize (c 3).toNat=a3 at*;have e0:IntKind.u32.wrap (IntKind.u32.wrap (a0:Int)*2^ min 24 32)=((2^ 24*a0:Nat):Int):=by
  rw [u32n a0 (by omega),show (2:Int) ^ min 24 32=16777216 from rfl,w32 (by constructor<;>omega)];omega
 have e1:IntKind.u32.wrap (IntKind.u32.wrap (a1:Int)*2^ min 16 32)=((2^ 16*a1:Nat):Int):=by
  rw [u32n a1 (by omega),show (2:Int) ^ min 16 32=65536 from rfl,w32 (by constructor<;>omega)];omega
 have e2:IntKind.u32.wrap (IntKind.u32.wrap (a2:Int)*2^ min 8 32)=((2^ 8*a2:Nat):Int):=by
  rw [u32n a2 (by omega),show (2:Int) ^ min 8 32=256 from rfl,w32 (by constructor<;>omega)];omega
 rw [e0,e1,e2,u32n a3 (by omega),orW (a:=a0) (b:=2^ 16*a1) (k:=24) (by omega) (by omega),
  show 2^ 24*a0+2^ 16*a1=2^ 16* (2^ 8*a0+a1) by omega,orW (a:=2^ 8*a0+a1) (b:=2^ 8*a2) (k:=16) (by omega) (by omega),
  show 2^ 16* (2^ 8*a0+a1)+2^ 8*a2=2^ 8* (2^ 8* (2^ 8*a0+a1)+a2) by omega,orW (a:=2^ 8* (2^ 8*a0+a1)+a2) (b:=a3) (k:=8) (by omega) (by omega)]
theorem wrapU(x:Int):IntKind.u32.wrap x=x%4294967296:=rfl
theorem z0s{x:Int}(h:inW x):xorW 0 x=x:=by
 unfold xorW;rw [Int.toNat_zero,Nat.zero_xor];omega
theorem turn2{x:Int}(h:inW x)(a b:Nat)(h1:1≤a)(h2:a≤31):turnS x [a,b] 2=xorW (rotW a x) (rotW b x):=by
 show xorW (xorW 0 (rotW a x)) (rotW b x)=_;rw [z0s (q3g h1 h2 h)]
theorem turn3{x:Int}(h:inW x)(a b c:Nat)(h1:1≤a)(h2:a≤31):turnS x [a,b,c] 3=xorW (xorW (rotW a x) (rotW b x)) (rotW c x):=by
 show xorW (xorW (xorW 0 (rotW a x)) (rotW b x)) (rotW c x)=_;rw [z0s (q3g h1 h2 h)]
theorem sg1U{y:Int}(h:inW y):xorK .u32 (turnS y [17,19] 2) (y.fdiv (2^ min 10 32))=sg1 y:=by
 have e:y.fdiv (2^ min 10 32)=y / 1024:=fdivW y 1024 (by decide)
 have h1:=q3g (n:=17) (by decide) (by decide) h
 have h2:=q3g (n:=19) (by decide) (by decide) h
 rw [e,turn2 h 17 19 (by decide) (by decide),xor32 (q7u h1 h2) (by unfold inW at*;omega)]
 rfl
theorem sg0U{y:Int}(h:inW y):xorK .u32 (turnS y [7,18] 2) (y.fdiv (2^ min 3 32))=sg0 y:=by
 have e:y.fdiv (2^ min 3 32)=y / 8:=fdivW y 8 (by decide)
 have h1:=q3g (n:=7) (by decide) (by decide) h
 have h2:=q3g (n:=18) (by decide) (by decide) h
 rw [e,turn2 h 7 18 (by decide) (by decide),xor32 (q7u h1 h2) (by unfold inW at*;omega)]
 rfl
theorem schU{x y u v:Int}(hx:inW x)(hy:inW y):IntKind.u32.wrap (IntKind.u32.wrap (IntKind.u32.wrap (xorK .u32 (turnS y [17,19] 2) (y.fdiv (2^ min 10 32))+u)+xorK .u32 (turnS x [7,18] 2) (x.fdiv (2^ min 3 32)))+v)=(sg1 y+u+sg0 x+v)%W32:=by
 rw [sg0U hx,sg1U hy,wrapU,wrapU,wrapU];unfold W32;omega
theorem bs1U{x:Int}(h:inW x):turnS x [6,11,25] 3=bs1 x:=turn3 h _ _ _ (by decide) (by decide)
theorem bs0U{x:Int}(h:inW x):turnS x [2,13,22] 3=bs0 x:=turn3 h _ _ _ (by decide) (by decide)
theorem notU{x:Int}(h:inW x):IntKind.u32.wrap ↑(BitVec.ofInt 32 (if IntKind.u32.signed=true then -1 else IntKind.u32.max) ^^^ BitVec.ofInt 32 x).toNat=4294967295-x:=by
 have e:BitVec.ofInt 32 (if IntKind.u32.signed=true then -1 else IntKind.u32.max)=BitVec.allOnes 32:=by decide
 obtain ⟨n,rfl⟩:∃n:Nat,x=n:=⟨x.toNat,by omega⟩
 rw [e,BitVec.allOnes_xor,BitVec.toNat_not,AH,AP,AL (by omega),wrapU]
 omega
theorem q4J(x y z:Int)(hx:inW x)(hy:inW y)(hz:inW z):PC Tryz.prog 299 [.raw (.int .u32 x),.raw (.int .u32 y),.raw (.int .u32 z)] (.raw (.int .u32 (chW x y z))):=by
 have hn:inW (4294967295-x):=by omega
 have e1:=and32 hx hy;have e2:=and32 hn hz;have e3:=xor32 (q3K hx hy) (q3K hn hz);refine q0w rfl rfl ?_;refine rQ fi299 ?_;refine (congrArg (fun u=>Value.int IntKind.u32 (xorK IntKind.u32 (andK IntKind.u32 x y) (andK IntKind.u32 u z))) (notU hx)).trans ?_;show Value.int IntKind.u32 (xorK IntKind.u32 (andK IntKind.u32 x y) (andK IntKind.u32 (4294967295-x) z))=_;rw [e1,e2,e3];rfl
theorem q2Y(a b c:Int)(ha:inW a)(hb:inW b)(hc:inW c):PC Tryz.prog 300 [.raw (.int .u32 a),.raw (.int .u32 b),.raw (.int .u32 c)] (.raw (.int .u32 (majW a b c))):=by
 have e1:=and32 ha hb;have e2:=and32 ha hc;have e3:=and32 hb hc;have e4:=xor32 (q3K ha hb) (q3K ha hc);have e5:=xor32 (q7u (q3K ha hb) (q3K ha hc)) (q3K hb hc);refine q0w rfl rfl ?_;refine rQ fi300 ?_;rw [e1,e2,e4,e3,e5];rfl
theorem z0o(t:Nat):dat_sha_constants.getD t 0=kS t:=rfl
theorem t1U{k w:Int}{v:List Int}(hv:inWs v):IntKind.u32.wrap (IntKind.u32.wrap (IntKind.u32.wrap (IntKind.u32.wrap (v.getD 7 0+turnS (v.getD 4 0) [6,11,25] 3)+chW (v.getD 4 0) (v.getD 5 0) (v.getD 6 0))+k)+w)=t1S k w v%W32:=by
 rw [bs1U (q0h hv 4 (by decide))]
 simp only [wrapU];unfold t1S W32;omega
theorem t2U{v:List Int}(hv:inWs v):IntKind.u32.wrap (turnS (v.getD 0 0) [2,13,22] 3+majW (v.getD 0 0) (v.getD 1 0) (v.getD 2 0))=t2S v%W32:=by
 rw [bs0U (q0h hv 0 (by decide))]
 rfl
theorem aU(x y:Int):IntKind.u32.wrap (x%W32+y%W32)=(x+y)%W32:=by rw [wrapU];unfold W32;omega
theorem eU(x y:Int):IntKind.u32.wrap (x+y%W32)=(x+y)%W32:=by rw [wrapU];unfold W32;omega
theorem list8{l:List Int}(h:l.length=8):[l.getD 0 0,l.getD 1 0,l.getD 2 0,l.getD 3 0,l.getD 4 0,l.getD 5 0,l.getD 6 0,l.getD 7 0]=l:=by
 match l,h with
 | [a,b,c,d,e,f,g,i],_=>rfl
theorem j3G(b:List UInt8)(h:List Int)(hb:b.length=64)(hh:inWs h):PE Tryz.prog 282 [.rptr 0 (.int .u32) 0 0,.isl .u8 b] [.row (.int .u32) h] (.ret (.tup [])) [.row (.int .u32) (blkS b h)]:=by
 refine q0b (Af _) ?_;refine rQ fi282 ?_;refine q0x (ι:=Nat) (fun t=>[(26,rI t)]) (fun t=>[.row (.int .u32) h,.row (.int .u32) (wL b t)]) (fun t=>16-t) (fun t=>t≤16) 0 (Al _) (by rw [q6O];rfl) ?_ ?_
 · with_reducible refine sxE ?_;trivial
 intro t ht;have hwr:=wsx t (by omega)
 have hwl:=q4e b t;by_cases hlt:t<16
 · have w1:IntKind.i64.wrap (4* (t:Int))=((4*t:Nat):Int):=by rw [wrapi (by omega)];omega
   have w4:IntKind.i64.wrap (((4*t:Nat):Int)+4)=((4*t+4:Nat):Int):=by rw [wrapi (by omega)];omega
   refine gy4 w1 w4 hwl Ac ?_;have hdl:(List.drop (4*t) (List.take (4*t+4) b)).length=4:=by rw [Ak,Aw];omega
   refine ⟨fun _=> ?_,fun h=>absurd h (by omega)⟩
   repeat (with_reducible refine And.intro (by first|omega|exact ⟨by omega,by omega,by omega,by omega⟩ |exact ⟨by omega,by omega⟩) ?_)
   refine ⟨t+1,by show t+1≤16;omega,by dsimp only;omega,?_,?_⟩
   · have hd:∀j,j<4→(List.drop (4*t) (List.take (4*t+4) b)).getD j Ty.u8.dflt=b.getD (4*t+j) 0:=fun j hj=>by
      rw [Ad,AF,Bz (by omega),←Ad]
      rfl
     have ho:=or4 fun j=>(List.drop (4*t) (List.take (4*t+4) b)).getD j Ty.u8.dflt;rw [ho,hd 0 (by omega),hd 1 (by omega),hd 2 (by omega),hd 3 (by omega)]
     have hw:((256* (256* (256* (b.getD (4*t+0) 0).toNat+ (b.getD (4*t+1) 0).toNat)+ (b.getD (4*t+2) 0).toNat)+ (b.getD (4*t+3) 0).toNat:Nat):Int)=wS b t:=by
      rw [z4j hlt];simp only [wdP,byI];omega
     show [SObj.row (.int .u32) h,SObj.row (.int .u32) ((wL b t).set t ((256* (256* (256* (b.getD (4*t+0) 0).toNat+ (b.getD (4*t+1) 0).toNat)+ (b.getD (4*t+2) 0).toNat)+ (b.getD (4*t+3) 0).toNat:Nat):Int))]= [SObj.row (.int .u32) h,SObj.row (.int .u32) (wL b (t+1))];rw [hw,q4f b (by omega)]
   with_reducible refine sx1 hwr ?_;trivial
 obtain rfl:t=16:=by omega
 refine gy2 hwl Ac ?_;refine ⟨fun h=>absurd h (by omega),fun _=> ?_⟩
 refine q1V (ι:=Nat) (fun t=>[(7,rI t)]) (fun t=>[.row (.int .u32) h,.row (.int .u32) (wL b t)]) (fun t=>64-t) (fun t=>16≤t∧t≤64) 16 (by decide) 2 rfl (by decide) (fun _=>rfl) (fun _=>rfl) (fun _=>rfl) ?_ ?_
 · with_reducible refine sxE ?_
   rfl
 intro t ht;have hwl:=q4e b t;have hwr:=wsx t (by omega)
 by_cases hlt:t<64
 · have e15:IntKind.i64.wrap ((t:Int) -15)=((t-15:Nat):Int):=by rw [wrapi (by omega)];omega
   have e2:IntKind.i64.wrap ((t:Int) -2)=((t-2:Nat):Int):=by rw [wrapi (by omega)];omega
   have e7:IntKind.i64.wrap ((t:Int) -7)=((t-7:Nat):Int):=by rw [wrapi (by omega)];omega
   have e16:IntKind.i64.wrap ((t:Int) -16)=((t-16:Nat):Int):=by rw [wrapi (by omega)];omega
   have g15:=q1j b (t:=t) (j:=t-15) (by omega) (by omega)
   have g2:=q1j b (t:=t) (j:=t-2) (by omega) (by omega)
   have g7:=q1j b (t:=t) (j:=t-7) (by omega) (by omega)
   have g16:=q1j b (t:=t) (j:=t-16) (by omega) (by omega)
   have i15:=q2O b (t-15);have i2:=q2O b (t-2);have i7:=q2O b (t-7);have i16:=q2O b (t-16);refine gyd10 e15 e2 e7 e16 g15 g2 g7 g16 hwl Ac ?_;refine ⟨fun _=>⟨⟨by omega,by omega⟩,by omega,⟨by omega,by omega⟩,by omega,⟨by omega,by omega⟩,by omega,⟨by omega,by omega⟩,by omega,q0E (q0M (wS b (t-2)) [17,19] i2 (by decide) (by decide)) ?_⟩,fun h=>absurd hlt (by omega)⟩
   refine gQ ?_;refine q0I 2 (by decide) ?_
   with_reducible refine sxE ?_
   refine q0l (q0M (wS b (t-15)) [7,18] i15 (by decide) (by decide)) ?_
   refine uQ 600 _ ?_;simp (maxSteps:=3000000) only [e15,e2,e7,e16,g15,g2,g7,g16,hwl,Ac,Ty.dflt,go_sem,↓zA,↓reduceIte,↓reduceDIte] <;>try simp only [zB]
   repeat (with_reducible refine And.intro (by first|omega|exact ⟨by omega,by omega⟩) ?_)
   refine ⟨t+1,⟨by omega,hlt⟩,by dsimp only;omega,⟨[.dead],?_⟩,?_⟩
   · rw [schU i15 i2,←z4s (by omega),q4f b hlt]
     rfl
   with_reducible refine sx1 hwr ?_;trivial
 obtain rfl:t=64:=by omega
 refine gQ ?_;have hl:=hh.1;refine ⟨fun h=>absurd h (by omega),fun _=> ?_⟩
 repeat (with_reducible refine And.intro (by omega) ?_)
 refine q3q (t:=.arr 64 (.int .u32)) (x:=dat_sha_constants) (ag:=some 64) (s:=.dat (.arr 64 (.int .u32)) dat_sha_constants) (by unfold datList;repeat (first|exact .head _|apply List.Mem.tail)) rfl (.inr rfl) ?_
 refine gQ ?_;refine q1V (ι:=Nat) (fun t=>[(134,rI t),(12,.raw (.int .u32 ((rnds b h t).getD 0 0))),(13,.raw (.int .u32 ((rnds b h t).getD 1 0))),(14,.raw (.int .u32 ((rnds b h t).getD 2 0))),(15,.raw (.int .u32 ((rnds b h t).getD 3 0))),(16,.raw (.int .u32 ((rnds b h t).getD 4 0))),(17,.raw (.int .u32 ((rnds b h t).getD 5 0))),(18,.raw (.int .u32 ((rnds b h t).getD 6 0))),(19,.raw (.int .u32 ((rnds b h t).getD 7 0)))]) (fun t=>[.row (.int .u32) h,.row (.int .u32) (wL b 64)]) (fun t=>64-t) (fun t=>t≤64) 0 (Al _) 2 rfl (by decide) (fun _=>rfl) (fun _=>rfl) (fun _=>rfl) ?_ ?_
 · with_reducible refine sxE ?_
   exact ⟨rfl,rfl,rfl,rfl,rfl,rfl,rfl,rfl⟩
 intro t ht;have hwr:=wsx t (by omega)
 by_cases hlt:t<64
 · have hv:=q1x (b:=b) hh t;generalize hvv:rnds b h t=v at*;have i0:=q0h hv 0 (by decide)
   have i1:=q0h hv 1 (by decide)
   have i2:=q0h hv 2 (by decide)
   have i3:=q0h hv 3 (by decide)
   have i4:=q0h hv 4 (by decide)
   have i5:=q0h hv 5 (by decide)
   have i6:=q0h hv 6 (by decide)
   have i7:=q0h hv 7 (by decide)
   refine gyd3 hl hwl Ac ?_;refine ⟨fun _=>⟨⟨by omega,by omega⟩,⟨by omega,by omega⟩,by omega,?_⟩,fun h=>absurd hlt (by omega)⟩
   refine q0I 2 (by decide) ?_
   with_reducible refine sxE ?_
   refine q0l (q0M _ [6,11,25] i4 (by decide) (by decide)) ?_
   refine gyd3 hl hwl Ac ?_;refine q0l (q4J _ _ _ i4 i5 i6) ?_;refine gyd3 hl hwl Ac ?_;refine q0z 3 ?_;with_reducible refine sxE ?_
   refine cyd3 (q0M _ [2,13,22] i0 (by decide) (by decide)) hl hwl Ac ?_
   refine cyd3 (q2Y _ _ _ i0 i1 i2) hl hwl Ac ?_;have hr:rnds b h (t+1)=rnd (kS t) (wS b t) v:=by show rnd (kS t) (wS b t) (rnds b h t)=_;rw [hvv]
   have hT1:=t1U (k:=kS t) (w:=wS b t) hv;have hT2:=t2U hv;refine ⟨t+1,hlt,by dsimp only;omega,⟨[.dead,.dead],rfl⟩,?_⟩
   rw [z0o,q1j b hlt hlt,hT1,hT2,aU,eU];with_reducible refine sy2 hwr hr ?_
   exact ⟨rfl,rfl,rfl,rfl,rfl,rfl,rfl,rfl⟩
 obtain rfl:t=64:=by omega
 refine gyd3 hl hwl Ac ?_;refine ⟨fun h=>absurd h (by omega),fun _=> ?_⟩
 have e8:=list8 (q1x (b:=b) hh 64).1;refine q0x (ι:=Nat) (fun i=>[(186,rI i),(185,.dat (.arr 8 (.int .u32)) (rnds b h 64))]) (fun i=>[.row (.int .u32) (blkP b h i),.row (.int .u32) (wL b 64)]) (fun t=>8-t) (fun t=>t≤8) 0 (Al _) ?_ ?_ ?_
 · rw [q3w b hh.1]
 · with_reducible refine sxE ?_
   exact congrArg (SV.dat (.arr 8 (.int .u32))) e8
 intro i hi;have hwr:=wsx i (by omega)
 have hv:=q1x (b:=b) hh 64;have hl:=hv.1;have hbl:=q4T b h i;by_cases hlt:i<8
 · have hbg:=q4O b h hlt;refine gyd4 hl hbl Ac AM ?_;refine ⟨fun _=> ?_,fun h=>absurd hlt (by omega)⟩
   repeat (with_reducible refine And.intro (by first|omega|exact ⟨by omega,by omega⟩) ?_)
   refine ⟨i+1,hlt,by dsimp only;omega,?_,?_⟩
   · rw [hbg,wrapU];show [_,_]= [SObj.row (.int .u32) (blkP b h (i+1)),_];rw [←q5b b h hlt]
   with_reducible refine sx1 hwr ?_;trivial
 obtain rfl:i=8:=by omega
 refine gyd3 hl hbl Ac ?_;refine ⟨fun h=>absurd h (by omega),fun _=> ?_⟩
 rw [q4I]
end Go.Proofs.YtmapiojgmbgbgaaGreatDoor
