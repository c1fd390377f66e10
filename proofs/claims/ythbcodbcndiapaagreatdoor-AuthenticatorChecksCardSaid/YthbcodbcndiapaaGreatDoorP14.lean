/- HMAC: contracts: the program's key blocks. -/
import Derived.Test.YthbcodbcndiapaaGreatDoorP13
import Derived.Lib.Bytealg
import Derived.Lib.Strings
import Derived.Lib.IndexBytes
set_option linter.all false
namespace Go.Proofs.YthbcodbcndiapaaGreatDoor
open Go Go.Sx Go.Proofs
set_option maxRecDepth 100000
set_option maxHeartbeats 40000000
variable {h n:Nat}
def z5E{k N:Nat}{t e:Ty}{x:t.den}{ys:List e.den}(ha:t.arrAt x k=some ⟨e,N,ys⟩)(hne:t≠e)(hn:n=N)(hl:ys.length=n)(hb:n<=1125899906842624):Bor h t [x] (.csl h e k 0 n) (.isl e ys):=by refine .csl (p:=0+n<=N) ?_ (by omega) hb;simp only [ownPart];rw [dif_neg hne];simp only [ha,dite_true,cast_eq,Av];rw [Ad (by omega)]
def j2H{t:Ty}{xs:List t.den}(hl:xs.length=n):Bor h t xs (.osl h t 0 n) (.isl t xs):=by have:=Bor.osl (h:=h) (t:=t) (xs:=xs) (off:=0) (n:=n) (by omega);rwa [Av,Ad (by omega)] at this
theorem z3L{xs:List UInt8}(hl:xs.length=n)(h0:0<n):Bor h .u8 xs (.rptr h .u8 0 0) (.iptr (.arr n .u8) xs 0):=by subst hl;exact .ptr (.inr ⟨rfl,rfl,rfl,h0,.rfl⟩)
theorem j0S{t:Ty}{x:t.den}(hg:t.get x 0 t.size=some ⟨t,x⟩):Bor h t [x] (.rptr h t 0 0) (.iptr t x 0):=.ptr (.inl ⟨x,rfl,by rw [BF];exact hg⟩)
theorem j1S(w:List UInt8)(c:UInt8)(_hw:w.length=64):PC Tryz.prog 275 [.raw (.int .u8 c.toNat),.iptr (.arr 64 .u8) w 0] (.dat (.arr 64 .u8) (hkP w c 64)):=by
 refine q0q rfl rfl ?_;refine rQ fi275 ?_;refine q0k (ι:=Nat) (fun i=>[(7,rI i)]) (fun i=>[.row .u8 (hkP w c i)]) (fun i=>64-i) (fun i=>i<=64) 0 (Al _) (by rw [z9X];first|done|rfl) ?_ ?_
 . with_reducible refine sxE ?_;trivial
 intro i hi;have hwr:=wsx i (by omega);have hpl:=z0a w c i;by_cases h64:i<64
 . have hx8:=xor8 (w.getD i 0) c;refine gyd3 hpl hx8 Ae ?_;refine ⟨fun _=>⟨⟨by omega,h64⟩,⟨by omega,h64⟩,⟨h64,by rw [UInt8.ofNat_toNat]⟩,i+1,h64,by dsimp only;omega,?_,?_⟩,fun h=>absurd h (by omega)⟩
   . rw [AZ,j3M w c h64]
   with_reducible refine sx1 hwr ?_;trivial
 obtain rfl:i=64:=by omega
 refine gy2 hpl Ae ?_;refine ⟨fun h=>absurd h (by omega),fun _=> ?_⟩;have e:List.take 64 (hkP w c 64)++List.drop (List.take 64 (hkP w c 64)).length (hkP w c 64)=hkP w c 64:=by rw [Ad (by omega),hpl,A2 (by omega),Ah]
 rw [e,if_pos hpl];exact ⟨_,rfl,rfl⟩
def hz0:HaD:=(List.replicate 8 0,List.replicate 64 0,0)
def q9S:HRep [] hz0:=z9B
def j3N(o i:List UInt8)(x:HaD)(rd:Bool)(hi:i.length=64):PE Tryz.prog 276 [.rptr 0 MH 0 0] [.row MH [((o,i),(x,rd))]] (.ret (.dat HH (wrS [] hz0 i))) [.row MH [((o,i),(x,rd))]]:=by refine q0b (Af _) ?_;refine rQ fi276 ?_;refine ⟨⟨by decide,by decide⟩,?_⟩;refine q0i [1,0] (z2K (t:=MH) (xs:=[((o,i),(x,rd))]) (z2d [] i hz0 q9S (by simp;omega)) rfl rfl rfl rfl (by simp) (.cons (.keep rfl) (.cons (z5E rfl (by decide) rfl hi (by decide)) .nil))) rfl (by decide) (by repeat first|exact trivial|exact rfl|refine And.intro ?_ ?_) rfl rfl ?_;simp only [afterO,Out.ren,SV.ren,mgA,sig,SObj.ren,SV.renL,List.set,List.map,Ah,AH,Ax];refine gQ ?_;trivial
theorem j0D(o i d:List UInt8)(x:HaD)(rd:Bool)(ho:o.length=64)(hd:d.length=32):PE Tryz.prog 278 [.rptr 0 MH 0 0,.dat (.arr 32 .u8) d] [.row MH [((o,i),(x,rd))]] (.ret (.dat (.arr 32 .u8) (shaS (o++d)))) [.row MH [((o,i),(x,rd))]]:=by refine q0b (Af _) ?_;refine rQ fi278 ?_;refine ⟨⟨by decide,by decide⟩,?_⟩;refine q0i [3,0] (z2K (t:=MH) (xs:=[((o,i),(x,rd))]) (z2d [] o hz0 q9S (by simp;omega)) rfl rfl rfl rfl (by simp) (.cons (.keep rfl) (.cons (z5E rfl (by decide) rfl ho (by decide)) .nil))) rfl (by decide) (by repeat first|exact trivial|exact rfl|refine And.intro ?_ ?_) rfl rfl ?_;simp only [afterO,Out.ren,SV.ren,mgA,sig,SObj.ren,SV.renL,List.set,List.map,Ah,AH,Ax];have hr1:HRep o (wrS [] hz0 o):=q9V q9S;have hr2:HRep (o++d) (wrS o (wrS [] hz0 o) d):=q9V hr1;generalize wrS [] hz0 o=y1 at*;generalize hy:wrS o y1 d=y at*;have hw2:=hy▸z2d o d y1 hr1 (by omega);refine gQ ?_;refine ⟨⟨by decide,by decide⟩,?_⟩;refine q0i [3,1] (z2K (t:=.u8) (xs:=d) hw2 (by simp only [AK,De]) rfl rfl rfl (by omega) (.cons (.keep rfl) (.cons (j2H hd) .nil))) rfl (by decide) (by repeat first|exact trivial|exact rfl|refine And.intro ?_ ?_) rfl rfl ?_;simp only [afterO,Out.ren,SV.ren,mgA,sig,SObj.ren,SV.renL,List.set,List.map,Ah,AH,Ax];refine gQ ?_;refine q0i [3] (q6A (t:=HH) (xs:=[y]) (j2k (o++d) y hr2 (by simp;omega)) rfl (by simp) (.cons (j0S rfl) .nil)) rfl (by decide) (by repeat first|exact trivial|exact rfl|refine And.intro ?_ ?_) rfl rfl ?_;simp only [afterO,Out.ren,SV.ren,mgA,sig,SObj.ren,SV.renL,List.set,List.map,Ah,AH,Ax];have hsl:(shaS (o++d)).length=32:=q1f _;refine gy1 hsl ?_;trivial
def padK(k:List UInt8):List UInt8:=hkC k++List.replicate (64- (hkC k).length) 0
def j2t(k:List UInt8):(hkC k).length<=64:=by
 unfold hkC;split
 . have:(shaS k).length=32:=q1f _;omega
 omega
def j1k(k:List UInt8):(padK k).length=64:=by have:=j2t k;unfold padK;rw [Ab,BM];omega
theorem z5G(k:List UInt8)(c:UInt8):hkP (padK k) c 64=hkS k c:=by
 unfold hkS hkP;apply Ba;intro i hi;have hi':i<64:=BE.1 hi;rw [if_pos hi',if_pos hi'];congr 1;unfold padK;rw [Aa,Aa];rcases AI i (hkC k).length with h|h
 . rw [Ai h]
 rw [Ao h,AW h,Ct];split<;>rfl
def macI(k:List UInt8):(List UInt8×List UInt8)×(HaD×Bool):=((hkS k 92,hkS k 54),(wrS [] hz0 (hkS k 54),true))
theorem j3X{ty:Ty}{x:ty.den}{v:Value}{H':List SObj}(hH:H'[h]?=some (.row ty [x])):Weak 0 (fun o' H''=>o'= .ret (.tup [.rptr 0 ty 0 0,.raw v])∧H''= [.row ty [x]]) (.ret (.tup [.rptr h ty 0 0,.raw v])) H':=
 ⟨fun _=>h,.tup [.rptr 0 ty 0 0,.raw v],.tup [.rptr 0 ty 0 0,.raw v],[.row ty [x]],⟨⟨rfl,trivial⟩,⟨hH,trivial⟩,rfl,rfl,rfl,rfl,Al _,fun _ h0=>absurd h0 (B8 0)⟩,.inl (.inl rfl),⟨rfl,rfl⟩⟩
abbrev HTT:Ty:=HH 
abbrev MTT:Ty:=MH 
theorem j5V(k:List UInt8)(hk:k.length<=64):PE Tryz.prog 251 [.isl .u8 k] [] (.ret (.tup [.rptr 0 MH 0 0,rI 0])) [.row MH [macI k]]:=by
 have c1:(4096< (k.length:Int))=False:=eq_false (by omega);have c2:(64< (k.length:Int))=False:=eq_false (by omega);have hkc:hkC k=k:=if_neg (by omega);have hkm:min k.length 64=k.length:=by omega
 have hpl:=j1k k;refine z9h ?_;refine q1T fi251 ?_;refine uQ 600 _ ?_;simp (maxSteps:=3000000) only [c1,c2,hkm,AL,go_sem,↓zA,↓reduceIte,↓reduceDIte] <;>try simp only [zB]
 have hrow:∀l,l=List.replicate 64 (0:UInt8)->k++List.drop (0+k.length) l=padK k:=fun l hl=>by subst hl;unfold padK;rw [hkc,Ae,List.drop_replicate]
 rw [hrow]
 case a=>rfl
 refine ⟨⟨by decide,by decide⟩,by omega,?_⟩;refine q0i [0] (q6A (t:=.u8) (xs:=padK k) (j1S (padK k) 92 hpl) rfl (by omega) (.cons (.keep rfl) (.cons (z3L hpl (by decide)) .nil))) rfl (by decide) (by repeat first|exact trivial|exact rfl|refine And.intro ?_ ?_) rfl rfl ?_;simp only [afterO,Out.ren,SV.ren,mgA,sig,SObj.ren,SV.renL,List.set,List.map,Ah,AH,Ax];refine gQ ?_;refine q0i [0] (q6A (t:=.u8) (xs:=padK k) (j1S (padK k) 54 hpl) rfl (by omega) (.cons (.keep rfl) (.cons (z3L hpl (by decide)) .nil))) rfl (by decide) (by repeat first|exact trivial|exact rfl|refine And.intro ?_ ?_) rfl rfl ?_;simp only [afterO,Out.ren,SV.ren,mgA,sig,SObj.ren,SV.renL,List.set,List.map,Ah,AH,Ax];rw [z5G,z5G];refine gQ ?_;refine eQ [1] (j3N (hkS k 92) (hkS k 54) _ true (z0a _ _ _)) ?_;exact j3X rfl
def z9U(m b:List UInt8)(ks:List UInt8×List UInt8)(x:HaD)(hx:HRep m x)(hl:m.length+b.length<=70368744177664):PE Tryz.prog 252 [.rptr 0 MH 0 0,.isl .u8 b] [.row MH [(ks,(x,true))]] (.ret (rI 0)) [.row MH [(ks,(wrS m x b,true))]]:=by refine q0b (Af _) ?_;refine rQ fi252 ?_;refine eQ [0] (z9a m b x ks true hx hl) ?_;trivial
def j6a(m:List UInt8)(o i:List UInt8)(x:HaD)(hx:HRep m x)(hl:m.length<=70368744177664)(ho:o.length=64):PE Tryz.prog 253 [.rptr 0 MH 0 0] [.row MH [((o,i),(x,true))]] (.ret (.tup [.dat (.arr 32 .u8) (shaS (o++shaS m)),rI 0])) [.row MH [((o,i),(x,true))]]:=by
 have hsl:(shaS m).length=32:=q1f _;have hsl2:(shaS (o++shaS m)).length=32:=q1f _;have hg:RLies MTT [((o,i),(x,true))] (0*MTT.size+128) HTT x:=.inl ⟨_,rfl,rfl⟩;refine q0b (Af _) ?_;refine q1T fi253 ?_;refine uQ 21 _ ?_;with_reducible refine sxE ?_
 refine q1r [0] mixed ?_;refine gQ ?_;refine q0s [0] (q6A (t:=MTT) (xs:=[((o,i),(x,true))]) (j2k m x hx hl) rfl (by simp) (.cons (.ptr hg) .nil)) rfl (by decide) (by repeat first|exact trivial|exact rfl|refine And.intro ?_ ?_) rfl rfl (fun h hh=> ?_) ?_
 . obtain rfl:h=0:=by simpa using hh
   rfl
 simp only [afterR,Out.ren,SV.ren,mgA,sig,SObj.ren,SV.renL,List.set,List.map,Ah,AH,Ax];refine gy1 hsl ?_;refine q0s [0] (j0D o i (shaS m) x true ho hsl) rfl (by decide) (by repeat first|exact trivial|exact rfl|refine And.intro ?_ ?_) rfl rfl (fun h hh=> ?_) ?_
 . obtain rfl:h=0:=by simpa using hh
   rfl
 simp only [afterR,Out.ren,SV.ren,mgA,sig,SObj.ren,SV.renL,List.set,List.map,Ah,AH,Ax];refine gy1 hsl2 ?_;trivial
def hmS(k b:List UInt8):List UInt8:=shaS (hkS k 92++shaS (hkS k 54++b))
def q5Q(k b:List UInt8):(hmS k b).length=32:=q1f _
def mWr(k:List UInt8)(ps:List (List UInt8)):Nat->HaD
 |0=>wrS [] hz0 (hkS k 54)
 |i+1=>wrS (hkS k 54++(ps.take i).flatten) (mWr k ps i) (ps.getD i [])
theorem q5e{ps:List (List UInt8)}{i:Nat}(h:i<ps.length):(ps.take (i+1)).flatten=(ps.take i).flatten++ps.getD i []:=by rw [List.take_succ_eq_append_getElem h,BQ,Cz,Aa,Ac h];rfl
def z8H(k:List UInt8)(ps:List (List UInt8)):∀i,i<=ps.length->HRep (hkS k 54++(ps.take i).flatten) (mWr k ps i)
 |0,_=>by have:=q9V (b:=hkS k 54) q9S;simpa [mWr] using this
 |i+1,hi=>by have:=q9V (b:=ps.getD i []) (z8H k ps i (by omega));rw [List.append_assoc,<-q5e (by omega)] at this;exact this
def q2c:∀ (ps:List (List UInt8)) (i:Nat),(ps.take i).flatten.length<=ps.flatten.length
 | [],i=>by simp
 |p :: ps,0=>by simp
 |p :: ps,i+1=>by simp only [List.take_succ_cons,A7,Ab];have:=q2c ps i;omega
theorem j1Y(k:List UInt8)(ps:List (List UInt8))(hk:k.length<=64)(hp:ps.flatten.length<=1099511627776)(hpl:ps.length<=1099511627776):PC Tryz.prog 233 [.isl .u8 k,.isl (.slice .u8) ps] (.tup [.dat (.arr 32 .u8) (hmS k ps.flatten),rI 0]):=by
 refine q0q rfl rfl ?_;refine q1T fi233 ?_;refine gQ ?_;refine eQ [] (j5V k hk) ?_;refine q0k (ι:=Nat) (fun i=>[(21,rI i)]) (fun i=>[.row .u8 (List.replicate 32 0),.row MH [((hkS k 92,hkS k 54),(mWr k ps i,true))]]) (fun i=>ps.length-i) (fun i=>i<=ps.length) 0 (Al _) rfl ?_ ?_
 . with_reducible refine sxE ?_;trivial
 intro i hi;have hrep:=z8H k ps i hi;have hwr:=wsx i (by omega);have hfl:=q2c ps i;have hil:(hkS k 54).length=64:=z0a _ _ _;by_cases h:i<ps.length
 . have hf1:=q5e h;have hfl1:=q2c ps (i+1);rw [hf1,Ab] at hfl1;refine gQ ?_;refine ⟨fun _=>⟨⟨by omega,h⟩,?_⟩,fun hh=>absurd h hh⟩;refine eQ [1] (z9U (hkS k 54++(ps.take i).flatten) (ps.getD i []) (hkS k 92,hkS k 54) _ hrep (by rw [Ab];omega)) ?_;refine ⟨i+1,h,by dsimp only;omega,rfl,?_⟩;with_reducible refine sx1 hwr ?_;trivial
 obtain rfl:i=ps.length:=by omega
 rw [AL] at hrep;have hsl:(shaS (hkS k 92++shaS (hkS k 54++ps.flatten))).length=32:=q1f _;refine gQ ?_;refine ⟨fun hh=>absurd hh (by omega),fun _=> ?_⟩;refine q0i [1] (j6a (hkS k 54++ps.flatten) (hkS k 92) (hkS k 54) _ hrep (by rw [Ab];omega) (z0a _ _ _)) rfl (by decide) (by repeat first|exact trivial|exact rfl|refine And.intro ?_ ?_) rfl rfl ?_;simp only [afterO,Out.ren,SV.ren,mgA,sig,SObj.ren,SV.renL,List.set,List.map,Ah,hsl];refine gy1 hsl ?_;rfl
def four(n:Nat):List UInt8:=[UInt8.ofNat (n / 2^ 24%256),UInt8.ofNat (n / 2^ 16%256),UInt8.ofNat (n / 2^ 8%256),UInt8.ofNat (n / 2^ 0%256)]
theorem j0y(n:Nat):(four n).length=4:=rfl
def fdivN(n m:Nat)(hm:m<=64):((n:Int).fdiv (2^ min m 64))=((n / 2^ m:Nat):Int):=by rw [Bj hm,Be _ (by exact_mod_cast Al (2^ m))];simp
def byteN(n m:Nat)(hm:m<=64):UInt8.ofNat (IntKind.u8.wrap ((n:Int).fdiv (2^ min m 64))).toNat=UInt8.ofNat (n / 2^ m%256):=by rw [fdivN n m hm];generalize n / 2^ m=m;rw [u8wrapR];congr 1
def byteN0(n:Nat):UInt8.ofNat (IntKind.u8.wrap (n:Int)).toNat=UInt8.ofNat (n / 2^ 0%256):=by rw [Nat.pow_zero,Nat.div_one,u8wrapR];congr 1
theorem j1N(n:Nat):PC Tryz.prog 234 [rI n] (.isl .u8 (four n)):=by refine q0n rfl rfl ?_;refine rQ fi234 ?_;refine ⟨⟨q2K _,q2K _,q2K _,q2K _⟩,?_⟩;rw [byteN _ 24 (by decide),byteN _ 16 (by decide),byteN _ 8 (by decide),byteN0];rfl
def j4p(n:Nat)(ls:List (List UInt8))(h1:1<=n)(h2:n<=1024)(hl:∀l∈ls,l.length<=4096)(hn:ls.length<=100):PC Tryz.prog 214 [rI n,.isl (.slice .u8) ls] (rB true):=by
 refine q0q rfl rfl ?_;refine rQ fi214 ?_;refine q0k (ι:=Nat) (fun i=>[(9,rI i)]) (fun i=>[]) (fun i=>ls.length-i) (fun i=>i<=ls.length) 0 (Al _) rfl ?_ ?_
 . with_reducible refine sxE ?_;trivial
 intro i hi;have hwr:=wsx i (by omega);by_cases h:i<ls.length
 . have hli:(ls.getD i []).length<=4096:=by rw [Aa,Ac h];exact hl _ (Bu _)
   have hli':(4096< (((ls.getD i (Ty.dflt (.slice .u8))).length:Nat):Int))=False:=eq_false (by show ¬(4096< (((ls.getD i []).length:Nat):Int));omega);refine gy1 hli' ?_;refine ⟨fun _=>⟨⟨by omega,h⟩,i+1,h,by dsimp only;omega,rfl,?_⟩,fun hh=>absurd h hh⟩;with_reducible refine sx1 hwr ?_;trivial
 obtain rfl:i=ls.length:=by omega
 refine gQ ?_;exact ⟨fun hh=>absurd hh (by omega),fun _=>⟨fun _=>by omega,fun hh=>absurd hh (by omega)⟩⟩
abbrev derT:Ty:=.prod (.slice .u8) (.prod (.slice .u8) (.prod (.slice .u8) (.int .i64)))
def kblk(key label ctx:List UInt8)(n i:Nat):List UInt8:=hmS key (four i++label++ [0]++ctx++four (8*n))
def q6K(key label ctx:List UInt8)(n i:Nat):(kblk key label ctx n i).length=32:=q5Q _ _
theorem j0I(key label ctx:List UInt8)(n i:Nat)(hk:key.length<=64)(hl:label.length<=4096)(hc:ctx.length<=4096)(hn:n<=1024)(hi:i<=1000000):PC Tryz.prog 217 [.agg [.isl .u8 key,.isl .u8 label,.isl .u8 ctx,rI n],rI i] (.dat (.arr 32 .u8) (kblk key label ctx n i)):=by
 have hw8:IntKind.i64.wrap (8* (n:Int))=((8*n:Nat):Int):=by rw [wrapi (by omega)];omega
 refine q0q rfl rfl ?_;refine ry1 fi217 hw8 ?_;refine q0e (j1N i) ?_;refine gQ ?_;refine q0e (j1N (8*n)) ?_;refine gQ ?_;have hfl:[four i,label,[UInt8.ofNat 0],ctx,four (8*n)].flatten=four i++label++ [0]++ctx++four (8*n):=by simp
 have hfn:[four i,label,[UInt8.ofNat 0],ctx,four (8*n)].flatten.length<=1099511627776:=by rw [hfl];simp only [Ab,j0y,AK,De];omega
 have hm:=j1Y key [four i,label,[UInt8.ofNat 0],ctx,four (8*n)] hk hfn (by simp);rw [hfl] at hm;have hkl:=q6K key label ctx n i;change PC _ _ _ (.tup [.dat (.arr 32 .u8) (kblk key label ctx n i),_]) at hm;generalize kblk key label ctx n i=kb at*;refine ⟨by decide,q0e hm ?_⟩;have htk:List.take 32 kb=kb:=Ad (by omega);refine gy2 hkl htk ?_;trivial
set_option maxHeartbeats 4000000
def allN(n:Nat)(q:Nat->Bool):Bool:=(List.range n).all q
variable {q:Nat->Bool}
def q3u:allN n q=true ↔ ∀j,j<n->q j=true:=by simp [allN]
def q0v{i:Nat}(h:i<n)(hq:q i=false):allN n q=false:=by rw [Bool.eq_false_iff];exact fun ha=>by rw [q3u.1 ha i h] at hq;cases hq
def q0C(h:∀j,j<n->q j=true):allN n q=true:=q3u.2 h
@[go_sem] def fnV(f:Nat):Value:=.func (.func f) #[] #[]
def name1:ByteArray:=⟨#[97,101,115,49,50,56,45,99,116,115,45,104,109,97,99,45,115,104,97,50,53,54,45,49,50,56]⟩
def name2:ByteArray:=⟨#[115,116,114,101,97,109,45,104,109,97,99,45,115,104,97,50,53,54,45,50,53,54]⟩
def kind1:List Value:=[.string name1,.int .i64 16,.int .i64 16,.int .i64 16,.int .i64 16,fnV 206,fnV 207,fnV 208]
attribute [go_sem] kind1
def kind2:List Value:=[.string name2,.int .i64 32,.int .i64 16,.int .i64 32,.int .i64 32,fnV 209,fnV 210,fnV 211]
attribute [go_sem] kind2
abbrev kindsM:SV:=.imap (some .i64) [.int .i64 1,.int .i64 2] [.agg kind1.toArray,.agg kind2.toArray]

theorem j4r:PC Tryz.prog 180 [] kindsM:=by refine q0q rfl rfl (j3L ?_);refine rQ fi180 ?_;exact ⟨_,_,[.agg kind1.toArray,.agg kind2.toArray],[],rfl,rfl⟩

def keyLen(p:Int):Int:=if p=1 then 16 else if p=2 then 32 else 0
def kindZ:List Value:=[.string ⟨#[]⟩,.int .i64 0,.int .i64 0,.int .i64 0,.int .i64 0,.nilFunc,.nilFunc,.nilFunc]
attribute [go_sem] kindZ
def kindOf(p:Int):List Value:=if p=1 then kind1 else if p=2 then kind2 else kindZ
def vKey(k:Key):Bool:=decide (keyLen k.1≠0) && (decide ((k.2.2.length:Int)=keyLen k.1) && (decide (0<=k.2.1) && decide (k.2.1<=65535)))
def j2b(k:Key):PC Tryz.prog 118 [.agg (KeyT.cells k)] (.tup [.agg (rawL (kindOf k.1)),rB (vKey k)]):=by
 obtain ⟨p,v,b⟩:=k;refine q0q rfl (by simp [SV.clean,SV.cleanL,q4z]) ?_;refine rQ fi118 ?_;refine q0e j4r ?_;by_cases h1:p=1
 . subst h1;refine uQ 600 _ ?_;simp (maxSteps:=3000000) only [kind1,kindOf,vKey,keyLen,go_sem,↓zA,↓reduceIte,↓reduceDIte] <;>try simp only [zB]
   grind
 by_cases h2:p=2
 . subst h2;refine uQ 600 _ ?_;simp (maxSteps:=3000000) only [kind2,kindOf,vKey,keyLen,go_sem,↓zA,↓reduceIte,↓reduceDIte] <;>try simp only [zB]
   grind
 refine uQ 600 _ ?_;simp (maxSteps:=3000000) only [h1,h2,kindOf,kindZ,vKey,keyLen,go_sem,↓zA,↓reduceIte,↓reduceDIte] <;>try simp only [zB]
 grind
end Go.Proofs.YthbcodbcndiapaaGreatDoor
namespace Go.Sx
open Go

variable {P:Program} {AQ:Ex->List SV->List SObj->Prop} {k0:Nat} {k:List IT} {t:List SV} {H:List SObj}
variable {g:FG} {Ds:List Nat}

def mvL(h:Nat):List SV->List SV
 | []=>[]
 |.ptr x o :: l=>(if x=h then .ptr 1 o else .any) :: mvL h l
 |s :: l=>(if s.clean then s else .any) :: mvL h l
theorem z8W{C C':Cx}{h b:Nat}(hk:Keeps C.I C'.I C.w C'.w)(hn:1<C'.n)(hr:C.ρ h=some b)(hr':C'.ρ 1=some b):∀ {l:List SV} {vs:List Value},SV.denL C l vs->SV.denL C' (mvL h l) vs
 | [],_,d=>d
 |s :: l,vs,d=>by
  obtain ⟨v,us,rfl,d1,d2⟩:=q0d.1 d;have d2':=z8W hk hn hr hr' d2;have hc:SV.den C' (if s.clean then s else .any) v:=by
   split
   . rename_i hs;exact q0F hk hs d1
   rw [SV.den];trivial
  cases s with
  |ptr x o=>
   refine q0d.2 ⟨v,us,rfl,?_,d2'⟩;split
   . subst_vars;rw [SV.den] at d1⊢;obtain ⟨_,b',h1,h2⟩:=d1;rw [hr] at h1;cases h1;exact ⟨hn,b,hr',h2⟩
   rw [SV.den];trivial
  |_=>exact q0d.2 ⟨v,us,rfl,hc,d2'⟩
def z6F{h:Nat}{T:TypeId}{cs ca:List SV}(hcell:H[h]?=some (.cells T cs))(hc:SV.cleanL cs=true):Hand 1 H (H.set h .dead) ca (mvL h ca) [.cells T cs]:=by
 intro C Cc Hc vs hw hv hwc hn hwe hi hsep;obtain ⟨g1,g2⟩:=z1X hw h hcell rfl;obtain ⟨b,us,hb,hcl,hd⟩:=hw.obj _ _ hcell;have hIk:Keeps C.I Cc.I C.w Cc.w:=fun b hb=>⟨(hi b).2 hb,by rw [hwe]⟩
 have hown1:OwnB C H b:=⟨h,_,hcell,rfl,hb⟩;have hkill:∀b,OwnB C (H.set h .dead) b->OwnB C H b:=fun b' ⟨x,o,ho,hl,hx⟩=>by
  by_cases e:h=x
  . subst e;rw [Ar (Ag.1 hcell).1] at ho;cases ho;simp [SObj.live] at hl
  exact ⟨x,o,by rwa [Aq e] at ho,hl,hx⟩
 have hnot:¬OwnB C (H.set h .dead) b:=by
  rintro ⟨x,o,ho,hl,hx⟩;by_cases e:h=x
  . subst e;rw [Ar (Ag.1 hcell).1] at ho;cases ho;simp [SObj.live] at hl
  rw [Aq e] at ho;exact e (hw.inj _ _ _ o b hcell ho rfl hl hb hx)
 have hn1:Cc.n=1:=by rw [hwc.n,hn]
 let C9:Cx:={Cc with ρ:=(fun h=>if h=Cc.n then some b else Cc.ρ h),n:=Cc.n+1}
 have hIk9:Keeps C.I C9.I C.w C9.w:=hIk
 obtain ⟨k1,k2,k3⟩:=z2X hwc (some b) (.cells T cs) (fun b' e=>by
  cases e
  exact ⟨fun x=>(hw.own b hown1).1 ((hi b).1 x),by rw [hwe];exact (hw.own b hown1).2,hsep b hown1⟩) C9 rfl ⟨b,us,if_pos rfl,by show Cc.w.heap[b]?=_;rw [hwe];exact hcl,q1p (C:=C) hIk9 hc hd⟩
 exact ⟨C,C9,rfl,rfl,g1,Evo.refl _,hkill,hwe,rfl,k1,k2,z8W (C:=C) hIk9 (by show 1<Cc.n+1;omega) hb (by show (if 1=Cc.n then _ else _)=_;rw [if_pos hn1.symm]) hv,fun b' hb'=>orMap (k3 b' hb') id fun e=>by cases e;exact ⟨hown1,hnot⟩⟩
variable {f:FuncId}
theorem j6s{fi:FI}{args:List SV}{K:Out->List SObj->Prop}(h:finfo P f=some fi)
 (hs: @SoundI (freG noFG []) P (retF P fi.results K) ⟨0,[.ic fi.code],args++List.replicate (fi.ntmps-args.length) .any,[]⟩):VC P f args [] K:=by
 obtain ⟨fn,c,hf,hb,hc,h1,h2,hen⟩:=j1U h;have hq:retQ P fn K=retF P fi.results K:=by rw [<-h2];funext e t H;cases e<;>rfl
 refine q3O ⟨hen,?_⟩;rintro E C vs hw ⟨ht,S,hcore⟩ hv;have hcore':∀b,¬S b:=hcore
 refine (@q4x (freG noFG []) P [] f fn c args K (startE false S C []) C vs hf hb rfl (by show C.n<=_;rw [hw.n];exact Af _) hw (q3V hw.n) ⟨⟨ht.tab,ht.tab.lt⟩,⟨⟨S,hcore'⟩,Dh,fun _ h=>by simp at h⟩,fun b hb=>((q0N hw.n).1 hb).elim q9b fun x=>hcore' b x.1⟩
  (fun _ _=>True) ?_ hv ?_).mono ?_
 . rintro C' H' ds hw' hx' ⟨Ds',e,⟨S',hc'⟩,hnd,hok⟩;rw [Ah] at hnd hok;exact ⟨Ds',by rw [e];exact Ah _,hnd,hok,trivial⟩
 . rw [hq,h1];exact @q0g (freG noFG []) P (retF P fi.results K) _ _ _ _ _ hs ⟨c,[],rfl,hc,rfl⟩
 rintro e w' ⟨o,H',C',k1,k2,k3,k4,_,k6⟩;exact ⟨o,H',C',k1,k2,k3, @Stp.mk (fgG noFG) E C [] C' H' (q3f k4.evo) (fun k=>q7K hw k (fun b hb=>absurd hb (hcore' b)) (fun hu=>by cases hu) k4) (fun hx0=>⟨⟨(q5x hw.n hx0.1.tab fun b hb=>absurd hb (hcore' b)).next k4,hx0.1.old⟩,S,hcore'⟩),k6⟩
def j6k{gop:Operand}{ps:Array Tmp}{asg body:IC}{fi ca:List SV}{N:Nat}{vw:Nat->Nat->List SV->List SObj->Prop}(h:Nat)(T:TypeId)(cs:List SV)(Hs:Nat->List SObj->Prop)(X:Nat->Ex->List SObj->Prop)
 (hcell:H[h]?=some (.cells T cs))(hcs:SV.cleanL cs=true)(hgop:evT t gop= .fn f fi ca)(hfi:SV.cleanL fi=true)(hit:IterO False P f fi (mvL h ca) [.cells T cs] N vw)(hlen:∀i n args' new,vw i n args' new->args'.length=ps.size)(hmk:∀n,H[0]?≠some (.mark n))(h0:Hs 0 (H.set h .dead))(hns:noStopI k=true)
 (hround:∀i Hi args' new,i<N->Hs i Hi->vw i Hi.length args' new->∀L1 L2, @SoundI (pinG g L1) P (fun _ _ _=>False)
  ⟨(Hi++new).length,[.ic asg,.stop fun t' H'=> @SoundI (pinG g L2) P (RQ Hs X i) ⟨H'.length,[.ic body],t',H'⟩],putL ps.toList args' t,Hi++new⟩)
 (hdone:∀D Hn,Hs N Hn-> @SoundI (topG g (D :: Ds)) P AQ ⟨k0,k,t,Hn⟩)(hstop:∀D i ex Hn,i<N->X i ex Hn->RfStopI g P AQ k0 k t (D :: Ds) ex Hn):
 @SoundI (freG g Ds) P AQ ⟨k0,.ic (.rf gop ps asg body) :: k,t,H⟩:=
 j2j (G0:=freG g Ds) (inf:=False) Hs X (fun h=>⟨h.1,.inr h.2⟩) (fun h=>h) (fun _ h=>h) hgop hfi (z6F hcell hcs) (fun n hn=>absurd hn (hmk n)) hit (fun h=>h.elim) hlen h0 hns hround hdone hstop
end Go.Sx
namespace Go.Proofs.YthbcodbcndiapaaGreatDoor
open Go Go.Sx Go.Proofs
set_option maxRecDepth 100000
set_option maxHeartbeats 4000000
def szB(s:ByteArray):Bool:=decide (1<=(s.size:Int)) && decide ((s.size:Int)<=32)
theorem j6X(s:ByteArray):PC Tryz.prog 178 [rS s] (rB (szB s)):=by refine q0q rfl rfl ?_;refine rQ fi178 ?_;grind [szB]
theorem j5W(s:ByteArray):PC Tryz.prog 240 [rS s,rS ⟨#[46]⟩] (rI (Lib.indexByte s.data.toList 46)):=by
 refine j1x (vs:=[.string s,.string ⟨#[46]⟩]) (by kernel_rfl) fun w=> ?_;have hb (w:World):Calls Tryz.prog 257 #[.string s,.int .u8 46] w fun e w'=>e= .returned (.int .i64 (Lib.indexByte s.data.toList 46))∧w'=w:=by go_enter Tryz.func257,Tryz.ntmps257;go_wp2;rw [run_callFunc_extern Tryz.func280 (by kernel_rfl) (by kernel_rfl) (by kernel_rfl) (e:=Extern.BytealgIndexByte.indexByte) (by kernel_rfl),Lib.run_indexByteString];simp only [Result.andThen];rw [Oper.upon_value];go_wp2;go_ret;exact ⟨rfl,rfl⟩
 by_cases he:s=⟨#[46]⟩
 . subst he;go_enter Tryz.func240,Tryz.ntmps240;go_wp2;go_ret;exact ⟨by rfl,RowKit.Below.refl _ _⟩
 have hne:([46]==s.toList)=false:=by rw [beq_eq_false_iff_ne];intro h;have h2:s.toList=(⟨#[46]⟩:ByteArray).toList:=h.symm.trans (by rw [ByteArray.toList_eq]);rw [ByteArray.toList_eq,ByteArray.toList_eq] at h2;exact he (ByteArray.ext (Array.toList_inj.1 h2))
 go_enter Tryz.func240,Tryz.ntmps240
 go_wp2_with (go_at_call 257;refine (hb _).mono ?_;rintro e w' ⟨rfl,rfl⟩)
 go_ret;exact ⟨rfl,RowKit.Below.refl _ _⟩
def j7y(s:ByteArray):PC Tryz.prog 227 [rS s,rS ⟨#[46]⟩] (rI (Lib.indexByte s.data.toList 46)):=by refine q0q rfl rfl ?_;refine rQ fi227 ?_;refine cQ (j5W s) ?_;trivial

variable {α:Type}{l:List α}
theorem z5N{d:α}{j:Nat}(h:j<l.length):l.getD j d=l[j]:=by rw [Aa,Ac h];rfl
def q9k{d:α}{q:α->Bool}:allN l.length (fun j=>q (l.getD j d))=l.all q:=by
 rw [B5,q3u,Bb];constructor
 . intro h x hx;obtain ⟨j,hj,rfl⟩:=A9 hx;have:=h j hj;rwa [z5N hj] at this
 intro h j hj;exact h _ (q2l hj)
def splitGo:List UInt8->List UInt8->List (List UInt8)
 |cur,[]=>[cur.reverse]
 |cur,c :: cs=>if c==46 then cur.reverse :: splitGo [] cs else splitGo (c :: cur) cs
def splitDot(l:List UInt8):List (List UInt8):=splitGo [] l
def q6m:∀ (l cur:List UInt8),Lib.indexByte l 46= -1->splitGo cur l= [cur.reverse++l]
 | [],cur,_=>by simp [splitGo]
 |c :: l,cur,h=>by
  unfold Lib.indexByte at h;by_cases hc:(c==46)=true
  . rw [if_pos hc] at h;omega
  have hg:=Lib.indexByte_ge l 46;rw [if_neg hc] at h;have h':Lib.indexByte l 46= -1:=by
   by_cases h2:(Lib.indexByte l 46== -1)=true
   . simpa using h2
   rw [if_neg h2] at h;simp at h2;omega
  unfold splitGo;rw [if_neg hc,q6m l (c :: cur) h'];simp
def q6e:∀ (l cur:List UInt8) (i:Nat),Lib.indexByte l 46=(i:Int)->i<l.length∧splitGo cur l=(cur.reverse++l.take i) :: splitGo [] (l.drop (i+1))
 | [],cur,i,h=>by unfold Lib.indexByte at h;omega
 |c :: l,cur,i,h=>by
  unfold Lib.indexByte at h;by_cases hc:(c==46)=true
  . rw [if_pos hc] at h;obtain rfl:i=0:=by omega
    refine ⟨by simp,?_⟩
    conv=>lhs;unfold splitGo
    rw [if_pos hc];simp
  rw [if_neg hc] at h;by_cases h2:(Lib.indexByte l 46== -1)=true
  . rw [if_pos h2] at h;omega
  rw [if_neg h2] at h;have hg:=Lib.indexByte_ge l 46;simp at h2;obtain ⟨j,rfl⟩:∃j,i=j+1:=⟨i-1,by omega⟩
  obtain ⟨h3,h4⟩:=q6e l (c :: cur) j (by omega);refine ⟨by simp;omega,?_⟩
  conv=>lhs;unfold splitGo
  rw [if_neg hc,h4];simp
def splitB(s:ByteArray):List ByteArray:=(splitDot s.data.toList).map fun l=>⟨l.toArray⟩
def z1F(s:ByteArray)(h:Lib.indexByte s.data.toList 46= -1):splitB s= [s]:=by unfold splitB splitDot;rw [q6m _ _ h];simp
def z2l(s:ByteArray)(i:Nat)(h:Lib.indexByte s.data.toList 46=(i:Int)):i<s.size∧splitB s=s.extract 0 i :: splitB (s.extract (i+1) s.size):=by
 obtain ⟨h1,h2⟩:=q6e s.data.toList [] i h;refine ⟨by simpa using h1,?_⟩;unfold splitB splitDot;rw [h2,Lib.extract_data,Lib.extract_eq];have:List.take (s.size- (i+1)) (List.drop (i+1) s.data.toList)=List.drop (i+1) s.data.toList:=by rw [Ad];simp
 rw [this];simp
def realmChar(c:UInt8):Bool:=(decide (65<=c.toNat) && decide (c.toNat<=90)) || (decide (48<=c.toNat) && decide (c.toNat<=57)) ||c==45
def labelB(l:ByteArray):Bool:=decide (0<l.size) && l.data.toList.all realmChar
def realmB(s:ByteArray):Bool:=szB s&& (splitB s).all labelB

def z1b(s:ByteArray):∀x∈splitB s,x.size<=s.size:=by
 have h:∀ (l cur:List UInt8),∀y∈splitGo cur l,y.length<=cur.length+l.length:=by
  intro l;induction l with
  |nil=>intro cur y hy;simp [splitGo] at hy;subst hy;simp
  |cons c l ih=>
   intro cur y hy;unfold splitGo at hy;split at hy
   . rcases Bm.1 hy with rfl|hy
     . simp
     have:=ih [] y hy;simp at this⊢;omega
   have:=ih (c :: cur) y hy;simp at this⊢;omega
 intro x hx;unfold splitB at hx;obtain ⟨y,hy,rfl⟩:=By.1 hx;have:=h _ [] y hy;simp at this;exact this
def vwS(s:ByteArray):Nat->Nat->List SV->List SObj->Prop:=fun i _ args' new=>args'= [rS ((splitB s).getD i ⟨#[]⟩)]∧new= []
theorem z4B(s:ByteArray):PE Tryz.prog 205 [rS s,rS ⟨#[46]⟩,rI 0] [] (.ret (.fn 225 [] [.iptr .str ⟨#[46]⟩ 0,.ptr 0 0,.iptr (.int .i64) 0 0])) [.cells 9 [rS s],.dead,.dead]:=by
 refine q1T fi205 ?_;refine uQ 5 _ ?_;with_reducible refine sxE ?_
 refine q1P 4 1 (ty:=.str) (x:=⟨#[46]⟩) rfl (show (1:Nat)<=140737488355328 by decide) rfl rfl ?_;refine q1P 5 2 (ty:=.int .i64) (x:=0) rfl trivial rfl rfl ?_;refine gQ ?_;trivial
def z2t(s:ByteArray):PE Tryz.prog 179 [rS s,rS ⟨#[46]⟩] [] (.ret (.fn 225 [] [.iptr .str ⟨#[46]⟩ 0,.ptr 0 0,.iptr (.int .i64) 0 0])) [.cells 9 [rS s],.dead,.dead]:=by refine q1T fi179 ?_;refine gQ ?_;refine eQ [] (z4B s) ?_;trivial
def cutB(s:ByteArray):Nat->ByteArray
 |0=>s
 |i+1=>(cutB s i).extract ((Lib.indexByte (cutB s i).data.toList 46).toNat+1) (cutB s i).size
theorem z2J(s:ByteArray)(hs:s.size<=140737488355328):IterO False Tryz.prog 225 [] [.iptr .str ⟨#[46]⟩ 0,.ptr 1 0,.iptr (.int .i64) 0 0] [.cells 9 [rS s]] (splitB s).length (vwS s):=by
 refine ⟨by kernel_rfl,fun l B J hJ yg _=> ?_⟩;refine (q1C (yFG hJ) fi225 ?_).2;letI:Ghost:=topG (yFG hJ) [];have e46:(((#[46]:Array UInt8).size:Nat):Int)=1:=rfl;refine gy1 e46 ?_;refine q0k (ι:=Nat) (fun _=>[]) (fun i=>[.mark i,.cells 9 [rS (cutB s i)]]) (fun i=>(splitB s).length-i) (fun i=>(splitB s).drop i=splitB (cutB s i)∧(cutB s i).size<=s.size) 0 ⟨rfl,Af _⟩ rfl ?_ ?_
 . with_reducible refine sxE ?_;trivial
 rintro i ⟨hsp,hcs⟩;have hcut:cutB s (i+1)=(cutB s i).extract ((Lib.indexByte (cutB s i).data.toList 46).toNat+1) (cutB s i).size:=rfl;have hix:=j7y (cutB s i);have hge:=Lib.indexByte_ge (cutB s i).data.toList 46;generalize cutB s i=t at*;by_cases h0:Lib.indexByte t.data.toList 46<0
 . have h1:=z1F t (by omega);rw [h1] at hsp;have hlen:=congrArg List.length hsp;simp at hlen;have hp:(splitB s).getD i ⟨#[]⟩=t:=by have:=congrArg (fun l=>l.getD 0 ⟨#[]⟩) hsp;simpa [Aa] using this
   refine gQ ?_;refine cQ hix ?_;refine ⟨fun _=> ?_,fun h=>absurd h0 h⟩;refine q1K [.cells 9 [rS t]] hJ yg (i:=i) (by omega) (fun n=>⟨_,_,⟨by rw [hp],rfl⟩,q0P rfl⟩) fun c=> ?_;cases c
   . refine gQ ?_;exact ⟨_,_,rfl,rfl,by omega⟩
   refine gQ ?_;exact ⟨_,_,rfl,rfl,by omega⟩
 obtain ⟨k,hk⟩:∃k:Nat,Lib.indexByte t.data.toList 46=(k:Int):=⟨_,(CK (by omega)).symm⟩
 obtain ⟨h1,h2⟩:=z2l t k hk;rw [hk] at hix hcut;rw [h2] at hsp;have hlen:=congrArg List.length hsp;simp at hlen;have hp:(splitB s).getD i ⟨#[]⟩=t.extract 0 k:=by have:=congrArg (fun l=>l.getD 0 ⟨#[]⟩) hsp;simpa [Aa] using this
 have hd:(splitB s).drop (i+1)=splitB (t.extract (k+1) t.size):=by rw [<-Bd,hsp];rfl
 have w0:IntKind.i64.wrap (k:Int)=k:=wrapi (by omega);have w1:IntKind.i64.wrap ((k:Int)+1)=((k+1:Nat):Int):=q1w (by omega);refine gQ ?_;refine q0a hix ?_;refine gy3 Int.add_zero w0 Az ?_;refine ⟨fun h=>absurd h (by omega),fun _=>⟨⟨by omega,by omega⟩,?_⟩⟩;refine q1K [.cells 9 [rS t]] hJ yg (i:=i) (by omega) (fun n=>⟨_,_,⟨by rw [hp],rfl⟩,q0P rfl⟩) fun c=> ?_;cases c
 . refine gQ ?_;exact ⟨_,_,rfl,rfl,by omega⟩
 refine gy3 e46 w1 Az ?_;refine ⟨⟨by omega,by omega⟩,i+1,⟨?_,?_⟩,by show _- (i+1) <_-i;omega,?_,?_⟩
 . rw [hd,hcut];rfl
 . rw [hcut];simp;omega
 . show _= [SObj.mark (i+1),SObj.cells _ [rS (cutB s (i+1))]];rw [hcut];rfl
 with_reducible refine sxE ?_;trivial
variable {c:UInt8}
def j5F{n:Nat}(hn:n<256):c=UInt8.ofNat n ↔ (c.toNat:Int)=n:=by
 have h:(UInt8.ofNat n).toNat=n:=by rw [A8];omega
 rw [<-BP,h];omega
def q4N(c:UInt8):realmChar c=true ↔ (c.toNat:Int)=45∨(65<=(c.toNat:Int)∧(c.toNat:Int)<=90)∨(48<=(c.toNat:Int)∧(c.toNat:Int)<=57):=by have h:=j5F (c:=c) (n:=45) (by decide);simp only [realmChar,B4,Am,decide_eq_true_eq,beq_iff_eq];have h':c=45 ↔ (c.toNat:Int)=45:=h;rw [h'];omega
def rlmH:List SObj:=[.cells 4 [rB false],.dead,.dead,.dead]
def j7m(s:ByteArray)(hs:s.size<=140737488355328):PC Tryz.prog 116 [rS s] (rB (realmB s)):=by
 refine q0q rfl rfl (j6s fi116 ?_);letI:Ghost:=freG noFG [];refine gQ ?_;refine cQ (j6X s) ?_;refine ⟨fun h=> ?_,fun h=> ?_⟩
 . rw [realmB,h];rfl
 refine q0i [] (z2t s) rfl (by decide) trivial rfl rfl ?_;simp only [afterO,Out.ren,SV.ren,mgA,sig,SObj.ren,SV.renL,List.set,List.map,Ah];refine uQ 600 _ ?_;refine j6k 1 _ _ (fun i H'=>H'=rlmH∧∀j,j<i->labelB ((splitB s).getD j ⟨#[]⟩)=true) (fun i ex H'=>ex= .ret∧H'=rlmH∧labelB ((splitB s).getD i ⟨#[]⟩)=false) rfl rfl rfl rfl (z2J s hs) (fun i n args' new h=>by rw [h.1];rfl) (fun n h=>by simp at h) ⟨rfl,fun j hj=>absurd hj (Bl j)⟩ rfl ?_ ?_ ?_
 . rintro i _ args' new hi ⟨rfl,hall⟩ ⟨rfl,rfl⟩ L1 L2;letI:Ghost:=pinG noFG L1;rw [Ah];obtain ⟨x,hx⟩:∃x,x=(splitB s).getD i ⟨#[]⟩:=⟨_,rfl⟩;have hxs:x.size<=s.size:=z1b s x (by rw [hx];exact q2l hi);rw [<-hx];unfold rlmH;refine uQ 600 _ ?_;simp only [putL,Bv];with_reducible refine sxE ?_
   letI:Ghost:=pinG noFG L2;refine gQ ?_;refine ⟨fun h0=>⟨rfl,rfl,by rw [<-hx,h0];rfl⟩,fun h0=> ?_⟩;refine q8D 16 x.size (fun j=>realmChar (x.data.toList.getD j 0)=true) ?_ fun k hk hch=> ?_
   . with_reducible refine sxE ?_;trivial
   refine gQ ?_;have hno:k<x.size->¬realmChar (x.data.toList.getD k 0)=true->labelB x=false:=fun hlt hn=>by unfold labelB;rw [BU];refine .inr (List.all_eq_false.2 ⟨_,q2l (d:=0) (i:=k) (by simpa using hlt),hn⟩)
   have hri:=q4N (x.data.toList.getD k 0);refine ⟨fun hlt=> ?_,fun hge=>⟨rfl,fun j hj=> ?_⟩⟩
   . have hwk:=wsx k (by omega);refine ⟨⟨by omega,hlt⟩,?_⟩;repeat' (first|apply And.intro|intro _)
     all_goals first|omega|exact rfl| (rw [<-hx];exact hno hlt (by rw [hri];omega)) |refine q3l hlt hch (by rw [hri];omega) ?_
     all_goals simp (maxSteps:=3000000) only [hwk,go_sem,↓zA,↓reduceIte,↓reduceDIte] <;>try simp only [zB]
   by_cases hji:j=i
   . subst hji;rw [<-hx];unfold labelB;rw [Am,decide_eq_true_eq];refine ⟨Nat.pos_of_ne_zero fun e=>h0 (ByteArray.ext (A0 e)),?_⟩;rw [<-q9k (d:=0)];refine q0C fun k hk=>hch k ?_;have:x.data.toList.length=x.size:=by simp
     omega
   exact hall j (by omega)
 . rintro D _ ⟨rfl,hall⟩;letI:Ghost:=topG noFG [D];unfold rlmH;refine gQ ?_;rw [realmB,h,B7];rw [<-q9k (d:=⟨#[]⟩)];exact (q0C hall).symm
 rintro D i ex _ hi ⟨rfl,rfl,hno⟩;have hf:realmB s=false:=by rw [realmB,h,B7,<-q9k (d:=⟨#[]⟩)];exact q0v hi hno
 rw [hf];unfold rlmH;show retF _ [.cell 2 4] _ .ret _ _;with_reducible refine sxE ?_;trivial
def visC(c:UInt8):Bool:=decide (33<=(c.toNat:Int)) && decide ((c.toNat:Int)<=126)
def z8P(h1:¬(c.toNat:Int) <33)(h2:¬126< (c.toNat:Int)):visC c=true:=by simp [visC];omega
def z5V(h1:(c.toNat:Int) <33):visC c=false:=by simp [visC];omega
def z6X(h1:126< (c.toNat:Int)):visC c=false:=by simp [visC];omega
def visB(s:ByteArray):Bool:=allN s.size fun j=>visC (s.data.toList.getD j 0)
theorem j7o(s:ByteArray)(hs:s.size<=140737488355328):PC Tryz.prog 117 [rS s] (rB (visB s&& szB s)):=by
 refine q0q rfl rfl ?_;refine rQ fi117 ?_;refine q8D 6 s.size (fun j=>visC (s.data.toList.getD j 0)=true) ?_ fun i hi hall=> ?_
 . with_reducible refine sxE ?_;trivial
 refine gQ ?_;refine ⟨fun hlt=>⟨⟨by omega,hlt⟩,fun h33=>⟨⟨by omega,hlt⟩,fun h126=> ?_,fun h126=>q3l hlt hall ?_ ?_⟩,fun h33=> ?_⟩,fun hge=>q0a (j6X s) ?_⟩
 . rw [show visB s=false from q0v hlt (z6X h126)];rfl
 . exact z8P h33 h126
 . with_reducible refine sxE ?_
   rw [q1w (by omega)]
 . rw [show visB s=false from q0v hlt (z5V h33)];rfl
 refine gQ ?_;rw [show visB s=true from q0C fun j hj=>hall j (by omega)];rfl

def fidx(l:List Bool):Int:=if l.all id then -1 else ((l.findIdx (!·):Nat):Int)
variable {l:List Bool}{i:Nat}
def j4A(hlt:i<l.length)(hall:∀j,j<i->l.getD j false=true)(h:l.getD i false=false):fidx l=i:=by
 have h1:¬l.all id=true:=fun ha=>by rw [Bb] at ha;have:=ha _ (q2l (d:=false) hlt);rw [h] at this;cases this
 unfold fidx;rw [if_neg h1,Int.ofNat_inj,List.findIdx_eq hlt];refine ⟨by rw [Aa,Ac hlt] at h;simpa using h,fun j hj=> ?_⟩;have:=hall j hj;rw [Aa,Ac (by omega)] at this;simpa using this
def j2J(hall:∀j,j<l.length->l.getD j false=true):fidx l= -1:=by
 have h1:l.all id=true:=by rw [Bb];intro x hx;obtain ⟨j,hj,rfl⟩:=A9 hx;have:=hall j hj;rw [Aa,Ac hj] at this;simpa using this
 unfold fidx;rw [if_pos h1]
def j0w(l:List Bool)(hl:l.length<=1125899906842624):PC Tryz.prog 204 [.isl .bool l,rB false] (rI (fidx l)):=by
 refine q0q rfl rfl ?_;refine rQ fi204 ?_;refine q8D 8 l.length (fun j=>l.getD j false=true) ?_ fun i hi hall=> ?_
 . with_reducible refine sxE ?_;trivial
 refine gQ ?_;refine ⟨fun hlt=>⟨⟨by omega,hlt⟩,fun h=> ?_,fun h=>q3l hlt hall ?_ ?_⟩,fun hge=> ?_⟩
 . rw [j4A hlt hall h.symm]
 . simpa [Ty.dflt] using h
 . with_reducible refine sxE ?_
   rw [q1w (by omega)]
 rw [j2J (fun j hj=>hall j (by omega))]
theorem q6Y(l:List Bool)(hl:l.length<=1125899906842624):PC Tryz.prog 177 [.isl .bool l,rB false] (rB (!l.all id)):=by
 refine q0q rfl rfl ?_;refine rQ fi177 ?_;refine cQ (j0w l hl) ?_;unfold fidx;split
 . simp_all
 rename_i h;simp [h]
def j5S(l:List Bool)(hl:l.length<=1125899906842624):PC Tryz.prog 115 [.isl .bool l] (rB (l.all id)):=by refine q0q rfl rfl ?_;refine rQ fi115 ?_;refine cQ (q6Y l hl) ?_;simp

def vPart(s:ByteArray):Bool:=visB s&& szB s
def vPrin(p:Prin):Bool:=(decide (1<=(p.1.length:Int)) && (decide ((p.1.length:Int)<=4) && realmB p.2)) && allN p.1.length fun j=>vPart (p.1.getD j ByteArray.empty)
theorem q6M(p:Prin)(hp:PrinT.ok p):PC Tryz.prog 43 [.agg (PrinT.cells p)] (rB (vPrin p)):=by
 obtain ⟨l,r⟩:=p;refine q0q rfl rfl ?_;refine rQ fi43 ?_;refine cR (j7m r hp.2) ?_;refine q0G 1 (by decide) ?_;with_reducible refine sxE ?_
 refine q0c (j5S _ (by simp)) ?_;refine uQ 600 _ ?_;simp (maxSteps:=3000000) only [BC,Cy,id,go_sem,↓zA,↓reduceIte,↓reduceDIte] <;>try simp only [zB]
 refine ⟨fun h=> ?_,fun h=> ?_⟩
 . rw [vPrin,h];rfl
 refine q8D 22 l.length (fun j=>vPart (l.getD j ByteArray.empty)=true) ?_ fun i hi hall=> ?_
 . with_reducible refine sxE ?_;trivial
 have hl:l.length<=1125899906842624:=hp.1.1;refine gQ ?_;refine ⟨fun hlt=>⟨⟨by omega,hlt⟩,q0a (j7o _ (hp.1.2 _ (q2l hlt))) ?_⟩,fun hge=> ?_⟩
 . refine gQ ?_;refine ⟨fun hb=> ?_,fun hb=>q3l hlt hall hb ?_⟩
   . rw [vPrin,show (allN l.length fun j=>vPart (l.getD j ByteArray.empty))=false from q0v hlt hb];simp
   with_reducible refine sxE ?_
   rw [q1w (by omega)]
 rw [vPrin,h,show (allN l.length fun j=>vPart (l.getD j ByteArray.empty))=true from q0C fun j hj=>hall j (by omega)];rfl
def dec:Bool->List UInt8->List UInt8->List (List UInt8)
 |_,cur,[]=>[cur]
 |true,cur,c :: r=>dec false (cur++ [c]) r
 |false,cur,c :: r=>if c=92 then dec true cur r else if c=47 then cur :: dec false [] r else dec false (cur++ [c]) r
def rlmR:Bool->List UInt8->Bool
 |prev,[]=> !prev
 |prev,c :: cs=>if c==46 then !prev&& rlmR true cs else realmChar c&& rlmR false cs
def labL(l:List UInt8):Bool:=decide (0<l.length) && l.all realmChar
def z1M:∀ (cs cur:List UInt8),(splitGo cur cs).all labL=(cur.all realmChar&& rlmR cur.isEmpty cs)
 | [],cur=>by cases cur<;>simp [splitGo,labL,rlmR,Bool.and_comm]
 |c :: cs,cur=>by
  rw [splitGo,rlmR];split
  . have:=z1M cs [];simp only [BC,this,Cy,List.isEmpty_nil,B7];cases cur<;>simp [labL,Bool.and_comm,Bool.and_left_comm]
  have:=z1M cs (c :: cur);rw [this,BC,List.isEmpty_cons];cases realmChar c<;>simp
def rlmAt(prev:Bool)(l:List UInt8)(j:Nat):Bool:=
 if l.getD j 0=46 then decide (j+1<l.length) && (if j=0 then !prev else decide (l.getD (j-1) 0≠46)) else realmChar (l.getD j 0)
def z7K:∀ (l:List UInt8) (prev:Bool),l≠ []->rlmR prev l=allN l.length (rlmAt prev l)
 | [],_,h=>absurd rfl h
 | [c],prev,_=>by simp only [rlmR,allN,Bx,List.range_one,BC,Cy,Cp,rlmAt];by_cases h:c=46<;>simp [h]
 |c :: d :: l,prev,_=>by
  have ih:=z7K (d :: l) (c==46) (by simp);have hs:∀j,rlmAt prev (c :: d :: l) (j+1)=rlmAt (c==46) (d :: l) j:=fun j=>by
   unfold rlmAt;simp only [Bw,AK,BT];cases j with
   |zero=>
    by_cases h:c=46
    . simp [h]
    have:(c==46)=false:=by simpa using h
    simp [h,this]
   |succ j=>simp
  have ha:allN (c :: d :: l).length (rlmAt prev (c :: d :: l))=(rlmAt prev (c :: d :: l) 0&& allN (d :: l).length (rlmAt (c==46) (d :: l))):=by
   rw [B5,Am,q3u,q3u];constructor
   . intro h;exact ⟨h 0 (by simp),fun j hj=>by rw [<-hs];exact h (j+1) (by simp at hj⊢;omega)⟩
   rintro ⟨h0,h⟩ j hj;cases j with
   |zero=>exact h0
   |succ j=>rw [hs];exact h j (by simp at hj⊢;omega)
  rw [ha,<-ih,rlmR];by_cases h:c=46
  . subst h;simp [rlmAt]
  have:(c==46)=false:=by simpa using h
  simp [rlmAt,h,this]
theorem z1j(s:ByteArray):realmB s=(szB s&& allN s.size (rlmAt true s.data.toList)):=by
 have h2:(splitB s).all labelB=(splitDot s.data.toList).all labL:=by unfold splitB;rw [List.all_map];congr 1
 rw [realmB,h2,splitDot,z1M,Cy,List.isEmpty_nil,B7];by_cases h:s.data.toList= []
 . have:s.size=0:=by have:=congrArg List.length h;simpa using this
   simp [szB,this]
 rw [z7K _ _ h];first|rfl|simp
variable {s:ByteArray}
def j4q(hlt:i<s.size):rlmAt true s.data.toList i=true ↔
 (if ((s.data.toList.getD i 0).toNat:Int)=46 then (i:Int)≠0∧(i:Int)≠((s.size-1:Nat):Int)∧((s.data.toList.getD (i-1) 0).toNat:Int)≠46 else ((s.data.toList.getD i 0).toNat:Int)=45∨(65<=((s.data.toList.getD i 0).toNat:Int)∧((s.data.toList.getD i 0).toNat:Int)<=90)∨(48<=((s.data.toList.getD i 0).toNat:Int)∧((s.data.toList.getD i 0).toNat:Int)<=57)):=by
 have hl:s.data.toList.length=s.size:=by simp
 have h46:∀c:UInt8,c=46 ↔ (c.toNat:Int)=46:=fun c=>j5F (c:=c) (n:=46) (by decide);unfold rlmAt;rw [<-q4N,hl];by_cases hc:s.data.toList.getD i 0=46
 . rw [if_pos hc,if_pos ((h46 _).1 hc),Am,decide_eq_true_eq];by_cases h0:i=0
   . simp [h0]
   rw [if_neg h0,decide_eq_true_eq,ne_eq,h46];omega
 rw [if_neg hc,if_neg (fun h=>hc ((h46 _).2 h))]
def rbad(hlt:i<s.size)(h:¬rlmAt true s.data.toList i=true):false=(szB s&& allN s.size (rlmAt true s.data.toList)):=by rw [q0v hlt (by simpa using h)];simp
def z0d(s:ByteArray)(hs:s.size<=140737488355328):PC Tryz.prog 120 [rS s] (rB (realmB s)):=by
 refine q0q rfl rfl ?_;rw [z1j];refine rQ fi120 ?_;refine q8D 3 s.size (fun j=>rlmAt true s.data.toList j=true) ?_ fun i hi hall=> ?_
 . with_reducible refine sxE ?_;trivial
 have e1:IntKind.i64.wrap ((s.size:Int) -1)=(s.size:Int) -1:=by rw [wrapi (by omega)]
 refine gQ ?_;refine ⟨fun hlt=> ?_,fun hge=> ?_⟩
 . have e3:((s.size-1:Nat):Int)=(s.size:Int) -1:=by omega
   have hri:=j4q hlt;rw [e1];rcases Cr i with hz|hpos
   . have e2:∀k:Nat,IntKind.i64.wrap ((i:Int) -1)=k->i=0:=fun _ _=>hz;repeat' (first|apply And.intro|intro _)
     all_goals first|omega| (refine rbad hlt ?_;rw [hri];split<;>omega) |refine q3l hlt hall (by rw [hri];split<;>omega) ?_
     all_goals (with_reducible refine sxE ?_<;>try exact True.intro)
     all_goals first|rw [q1w (by omega)] |rfl
   have e2:IntKind.i64.wrap ((i:Int) -1)=((i-1:Nat):Int):=by rw [wrapi (by omega)];omega
   rw [e2];simp only [Az];repeat' (first|apply And.intro|intro _)
   all_goals first|omega| (refine rbad hlt ?_;rw [hri];split<;>omega) |refine q3l hlt hall (by rw [hri];split<;>omega) ?_
   all_goals (with_reducible refine sxE ?_<;>try exact True.intro)
   all_goals first|rw [q1w (by omega)] |rfl
 rw [q0C fun j hj=>hall j (by omega),Cp,szB];refine ⟨fun h=> ?_,fun h=> ?_⟩ <;>simp [h]
def z8S(s:ByteArray)(hs:s.size<=140737488355328):PC Tryz.prog 119 [rS s] (rB (visB s)):=by
 refine q0q rfl rfl ?_;refine rQ fi119 ?_;refine q8D 3 s.size (fun j=>visC (s.data.toList.getD j 0)=true) ?_ fun i hi hall=> ?_
 . with_reducible refine sxE ?_;trivial
 refine gQ ?_;refine ⟨fun hlt=>⟨⟨by omega,hlt⟩,fun h33=>⟨⟨by omega,hlt⟩,fun h126=> ?_,fun h126=>q3l hlt hall ?_ ?_⟩,fun h33=> ?_⟩,fun hge=> ?_⟩
 . rw [show visB s=false from q0v hlt (z6X h126)]
 . exact z8P h33 h126
 . with_reducible refine sxE ?_
   rw [q1w (by omega)]
 . rw [show visB s=false from q0v hlt (z5V h33)]
 rw [show visB s=true from q0C fun j hj=>hall j (by omega)]
theorem q6f(p:Int):kindOf p=kind1∨kindOf p=kind2∨kindOf p=kindZ:=by
 unfold kindOf;split
 . exact .inl rfl
 split
 . exact .inr (.inl rfl)
 exact .inr (.inr rfl)
def j1B(k:Key):PC Tryz.prog 46 [.agg (KeyT.cells k)] (rB (vKey k)):=by
 refine q0q rfl rfl ?_;refine rQ fi46 ?_;refine q0a (j2b k) ?_;rcases q6f k.1 with h|h|h
 . rw [h];refine gQ ?_;trivial
 . rw [h];refine gQ ?_;trivial
 rw [h];refine gQ ?_;trivial
def q2n(l:List UInt8)(hl:l.length<=140737488355328):PC Tryz.prog 105 [.isl .u8 l] (.isl .u8 l):=by refine q0n rfl rfl ?_;refine rQ fi105 ?_;intro b hb;refine ⟨hb,fun h=>⟨⟨by omega,by omega⟩,⟨by omega,by omega⟩,Ad (by omega)⟩⟩
set_option maxHeartbeats 40000000
theorem z4E(x:derT.den)(hok:derT.ok x):PC Tryz.prog 216 [.fn 217 [.agg (derT.cells x)] []] (.fn 232 [] [.iptr (.clo 217 derT) x 0]):=by
 refine q0q rfl rfl ?_;refine q1T fi216 ?_;refine uQ 3 _ ?_;with_reducible refine sxE ?_
 refine q1P 1 0 (ty:=.clo 217 derT) (x:=x) rfl hok rfl rfl ?_;refine gQ ?_;trivial
def vwK(key label ctx:List UInt8)(n:Nat):Nat->Nat->List SV->List SObj->Prop:=fun i _ args' new=>args'= [rI ((i+1:Nat):Int),.isl .u8 (kblk key label ctx n (i+1))]∧new= []
theorem z1Q(key label ctx:List UInt8)(n N:Nat)(hk:key.length<=64)(hl:label.length<=4096)(hc:ctx.length<=4096)(hn:n<=1024)(hN:N<=1000):IterI True Tryz.prog 232 [] [.iptr (.clo 217 derT) (key,label,ctx,(n:Int)) 0] N (vwK key label ctx n):=by
 refine ⟨by kernel_rfl,fun l B J hJ yg hno=> ?_⟩;refine (q1C (yFG hJ) fi232 ?_).2;letI:Ghost:=topG (yFG hJ) [];refine gQ ?_;refine q9D [] (fun i=>i) (fun i=>[(3,rI ((i+1:Nat):Int))]) N (fun _=>True) trivial rfl (by simp) (by simp [SV.bel]) ?_ fun i hi _=> ?_
 . with_reducible refine sxE ?_
   rfl
 by_cases hlt:i<N
 . have hwr:IntKind.i64.wrap (((i+1:Nat):Int)+1)=((i+1+1:Nat):Int):=q1w (by omega);refine gQ ?_;refine q0a (j0I key label ctx n (i+1) hk hl hc hn (by omega)) ?_;have hbl:=q6K key label ctx n (i+1);generalize hb:kblk key label ctx n (i+1)=b at*;refine uQ 8 _ ?_;with_reducible refine sx1 hbl ?_
   refine ⟨⟨by decide,by decide⟩,?_⟩;refine q1j 1 rfl rfl (by rw [hbl];decide) ?_ ?_ ?_
   . with_reducible refine sxE ?_;trivial
   . with_reducible refine sxE ?_
     omega
   with_reducible refine sxE ?_
   have htk:List.take 32 (List.drop 0 b)=b:=by rw [Av];exact Ad (by omega)
   refine gy1 htk ?_;refine q1K [.dead] hJ yg hlt (fun n=>⟨_,_,⟨by rw [hb,Ad (show b.length<=32 by omega)],rfl⟩,q0P rfl⟩) fun c=> ?_;cases c
   . refine gQ ?_;exact ⟨_,_,rfl,rfl,by omega⟩
   refine gQ ?_;refine ⟨hlt,trivial,⟨[_],rfl⟩,?_⟩;with_reducible refine sx1 hwr ?_;trivial
 obtain rfl:i=N:=by omega
 exact j1h hJ (hno trivial)
def kacc(key label ctx:List UInt8)(n:Nat):Nat->List UInt8
 |0=>[]
 |i+1=>kacc key label ctx n i++kblk key label ctx n (i+1)
def q6L(key label ctx:List UInt8)(n:Nat):∀i,(kacc key label ctx n i).length=32*i
 |0=>rfl
 |i+1=>by rw [kacc,Ab,q6L key label ctx n i,q6K];omega
def kdfS(key label ctx:List UInt8)(n:Nat):List UInt8:=(kacc key label ctx n ((n+31) / 32)).take n
def z4c(key label ctx:List UInt8)(n:Nat):(kdfS key label ctx n).length=n:=by unfold kdfS;rw [Ak,q6L];omega
def frC(n i:Nat)(G:List SObj)(acc:List UInt8):List SObj:=.cells 3 [rI n] :: .cells 25 [.bld (G.length+2) .u8 (32*i)] :: (G++ [.row .u8 acc])
def frH(key label ctx:List UInt8)(n:Nat)(i:Nat)(H':List SObj):Prop:=i< (n+31) / 32∧∃G,(∃g,G=List.replicate g SObj.dead)∧H'=frC n i G (kacc key label ctx n i)
def frX(key label ctx:List UInt8)(n:Nat)(i:Nat)(ex:Ex)(H':List SObj):Prop:=ex= .exit 0∧i+1=(n+31) / 32∧∃G,(∃g,G=List.replicate g SObj.dead)∧H'=frC n (i+1) G (kacc key label ctx n (i+1))
def q7H{h:Nat}{t:Ty}{xs:List t.den}{l:List SObj}:∀g,frzObH h t xs l->frzObH h t xs (List.replicate g SObj.dead++l)
 |0,hl=>hl
 |g+1,hl=>⟨trivial,q7H g hl⟩
theorem j2Z(key label ctx:List UInt8)(n:Nat)(hk:key.length<=64)(hl:label.length<=4096)(hc:ctx.length<=4096)(h1:1<=n)(hn:n<=1024):PC Tryz.prog 215 [rI n,.fn 232 [] [.iptr (.clo 217 derT) (key,label,ctx,(n:Int)) 0]] (.isl .u8 (kdfS key label ctx n)):=by
 refine q0q rfl rfl (q3O (q1C noFG fi215 ?_));letI:Ghost:=topG noFG [];refine gQ ?_;refine q4e 1 0 .u8 rfl rfl rfl ?_;have hN:(n+31) / 32<=1000:=by omega
 refine j1D (inf:=True) (frH key label ctx n) (frX key label ctx n) rfl rfl rfl (z1Q key label ctx n ((n+31) / 32) hk hl hc hn hN) (fun _ Hn h=>absurd h.1 (B8 _)) (fun i n args' new h=>by rw [h.1];rfl) ⟨by omega,[],⟨0,rfl⟩,rfl⟩ rfl ?_ ?_ ?_
 . rintro i _ args' new hi ⟨hlt,G,⟨g,hg⟩,rfl⟩ ⟨rfl,rfl⟩ L1 L2;letI:Ghost:=pinG noFG L1;rw [Ah];have hal:=q6L key label ctx n i;have hbl:=q6K key label ctx n (i+1);have hac:kacc key label ctx n i++kblk key label ctx n (i+1)=kacc key label ctx n (i+1):=rfl;generalize hka:kacc key label ctx n i=a at*;generalize hkb:kblk key label ctx n (i+1)=b at*;unfold frC;refine uQ 600 _ ?_;simp only [putL,Bv];with_reducible refine sxaE ?_
   letI:Ghost:=pinG noFG L2;refine gya2 hal hbl ?_;refine ⟨⟨by omega,by omega⟩,fun h=>⟨rfl,by omega,G++ [.dead],⟨g+1,by rw [hg,CG]⟩,?_⟩,fun h=>⟨by omega,G++ [.dead],⟨g+1,by rw [hg,CG]⟩,?_⟩⟩
   . rw [<-hac];simp [frC,Di]
   rw [<-hac];simp [frC,Di]
 . rintro D _ ⟨h,_⟩;exact absurd h (B8 _)
 rintro D i ex _ hi ⟨rfl,hiN,G,⟨g,hg⟩,rfl⟩;refine ⟨_,rfl,?_⟩;unfold frC;letI:Ghost:=topG noFG [D];have hal:=q6L key label ctx n (i+1);have hke:List.take n (kacc key label ctx n (i+1))=kdfS key label ctx n:=by rw [hiN];rfl
 generalize kacc key label ctx n (i+1)=a at*;refine uQ 5 _ ?_;with_reducible refine sxaE ?_
 refine ⟨⟨by omega,by omega⟩,?_⟩;refine q1j (G.length+2) (ty:=.u8) (xs:=a) rfl (by simp) (by omega) ?_ ?_ ?_
 . with_reducible refine sxaE ?_
   refine ⟨by omega,?_⟩;rw [hg];exact q7H g ⟨trivial,trivial⟩
 . with_reducible refine sxaE ?_
   exact ⟨by omega,by omega⟩
 with_reducible refine sxaE ?_
 rw [CM,hke];have hkl:(kdfS key label ctx n).length=n:=z4c _ _ _ _;refine aQ ?_;refine q0a (q2n (kdfS key label ctx n) (by omega)) ?_;refine aQ ?_;trivial
def j7k(key label ctx:List UInt8)(n:Nat)(hk:key.length<=64)(hl:label.length<=4096)(hc:ctx.length<=4096)(h1:1<=n)(hn:n<=1024):PC Tryz.prog 193 [.isl .u8 key,.isl .u8 label,.isl .u8 ctx,rI n] (.tup [.isl .u8 (kdfS key label ctx n),rI 0]):=by
 have hal:=j4p n [key,label,ctx] h1 hn (fun l hl'=>by simp at hl';rcases hl' with rfl|rfl|rfl<;>omega) (by simp);refine q0q rfl rfl ?_;refine rQ fi193 ?_;refine q0z 0 ?_;with_reducible refine sxE ?_
 refine cQ hal ?_;refine cQ (z4E (key,label,ctx,(n:Int)) ⟨⟨show key.length<=1125899906842624 by omega,fun _ _=>trivial⟩,⟨show label.length<=1125899906842624 by omega,fun _ _=>trivial⟩,⟨show ctx.length<=1125899906842624 by omega,fun _ _=>trivial⟩,trivial⟩) ?_;refine cQ (j2Z key label ctx n hk hl hc h1 hn) ?_;trivial
abbrev rkF(key:List UInt8)(bw:Bool):SV:=.fn 290 [] [.iptr .bool bw 0,.iptr (.ptr CipT) (some (cipS key)) 0]
theorem j1K(key:List UInt8)(hk:key.length=16):CipT.ok (cipS key):=by
 have h1:fwS.length=256:=by simp [fwS]
 have h2:(invP 256).length=256:=z3m 256;have h3:=q4d key hk;unfold cipS;generalize fwS=fw at*;generalize invP 256=iv at*;generalize wordsS key=w at*;refine ⟨⟨?_,?_⟩,?_,?_⟩;all_goals first|exact trivial|exact ⟨by assumption,fun _ _=>trivial⟩ |exact ⟨⟨by assumption,fun _ _=>trivial⟩,trivial⟩ |skip
theorem q6j(key:List UInt8)(bw:Bool)(hk:key.length=16):PC Tryz.prog 272 [.iptr CipT (cipS key) 0,rB bw] (rkF key bw):=by
 refine q0q rfl rfl ?_;refine q1T fi272 ?_;refine uQ 4 _ ?_;with_reducible refine sxE ?_
 refine q1P 2 0 (ty:=.ptr CipT) (x:=some (cipS key)) rfl (fun y h=>by cases h;exact j1K key hk) rfl rfl ?_;refine q1P 3 1 (ty:=.bool) (x:=bw) rfl trivial rfl rfl ?_;refine gQ ?_;trivial
def rkI(bw:Bool)(i:Nat):Nat:=if bw then 10-i else i
def rkK(key:List UInt8)(i:Nat):List UInt8:=((wordsS key).drop (i*16)).take 16
def vwR(key:List UInt8)(bw:Bool):Nat->Nat->List SV->List SObj->Prop:=fun i _ args' new=>args'= [rI (rkI bw i:Nat),.dat (.arr 16 .u8) (rkK key (rkI bw i))]∧new= []
theorem q6s(key:List UInt8)(bw:Bool)(hk:key.length=16):Iter Tryz.prog 290 [] [.iptr .bool bw 0,.iptr (.ptr CipT) (some (cipS key)) 0] 11 (vwR key bw):=by
 refine ⟨by kernel_rfl,fun l B J hJ yg=> ?_⟩;have hwl:=q4d key hk;refine (q1C (yFG hJ) fi290 ?_).2;letI:Ghost:=topG (yFG hJ) [];refine gQ ?_;refine q9D [] (fun i=>i) (fun i=>[(5,rI (i:Nat))]) 11 (fun _=>True) trivial rfl (by simp) (by simp [SV.bel]) ?_ fun i hi _=> ?_
 . with_reducible refine sxE ?_;trivial
 have hwr:=wsx i (by omega);by_cases hlt:i<11
 . have f1:((i:Int) <11)=True:=eq_true (by omega);have e1:IntKind.i64.wrap (10- (i:Int))=((10-i:Nat):Int):=by rw [wrapi (by omega)];omega
   cases bw with
   |false=>
    refine gy1 f1 ?_;refine ⟨by omega,q1K [] hJ yg hlt (fun n=>⟨_,_,⟨rfl,rfl⟩,q0P rfl⟩) fun c=> ?_⟩;cases c
    . refine gQ ?_;exact ⟨_,_,rfl,rfl,by omega⟩
    refine gQ ?_;refine ⟨hlt,trivial,⟨[],rfl⟩,?_⟩;with_reducible refine sx1 hwr ?_;trivial
   |true=>
    refine gy2 f1 e1 ?_;refine ⟨by omega,q1K [] hJ yg hlt (fun n=>⟨_,_,⟨rfl,rfl⟩,q0P rfl⟩) fun c=> ?_⟩;cases c
    . refine gQ ?_;exact ⟨_,_,rfl,rfl,by omega⟩
    refine gQ ?_;refine ⟨hlt,trivial,⟨[],rfl⟩,?_⟩;with_reducible refine sx1 hwr ?_;trivial
 obtain rfl:i=11:=by omega
 have f1:(((11:Nat):Int) <11)=False:=by decide
 refine gy1 f1 ?_;exact ⟨_,_,rfl,rfl,Af _⟩
theorem j7a(n:Nat):PC Tryz.prog 194 [rI n] (.isl .u8 (four n)):=by refine q0n rfl rfl ?_;refine rQ fi194 ?_;refine ⟨⟨q2K _,q2K _,q2K _,q2K _⟩,?_⟩;rw [byteN _ 24 (by decide),byteN _ 16 (by decide),byteN _ 8 (by decide),byteN0];rfl
theorem z6Q(ls:List (List UInt8))(hl:ls.flatten.length<=1099511627776)(hn:ls.length<=1099511627776):PC Tryz.prog 161 [.isl (.slice .u8) ls] (.isl .u8 ls.flatten):=by
 refine q0n rfl rfl ?_;refine rQ fi161 ?_;refine q5X 3 .u8 (fun i=>(ls.take i).flatten) (fun i=>[(8,rI i)]) ls.length (fun _=>True) rfl (by simp) (by simp) rfl (fun i=>rfl) ?_ fun i hi _=> ?_
 . with_reducible refine sxE ?_;trivial
 have hwr:=wsx i (by omega);have hfl:=q2c ls i;by_cases h:i<ls.length
 . have hf1:=q5e h;have hfl1:=q2c ls (i+1);rw [hf1,Ab] at hfl1;have hfl2:(ls.take i).flatten.length+ (ls.getD i (Ty.dflt (.slice .u8))).length<=ls.flatten.length:=hfl1;refine gQ ?_;refine ⟨fun _=>⟨⟨by omega,h⟩,⟨by omega,by omega⟩,q3j [.dead] [] h trivial (by rw [hf1];rfl) ?_⟩,fun hh=>absurd h hh⟩;with_reducible refine sx3 hwr hf1 ?_
   rfl
 obtain rfl:i=ls.length:=by omega
 rw [AL] at*;refine gQ ?_;refine ⟨fun hh=>absurd hh (by omega),fun _=> ?_⟩;exact ⟨⟨by omega,by omega⟩,AL⟩
def j0A(k:List UInt8)(ps:List (List UInt8))(hk:k.length<=64)(hp:ps.flatten.length<=1099511627776)(hpl:ps.length<=1099511627776):PC Tryz.prog 230 [.isl .u8 k,.isl (.slice .u8) ps] (.isl .u8 (hmS k ps.flatten)):=by have hsl:=q5Q k ps.flatten;refine q0n rfl rfl ?_;refine rQ fi230 ?_;refine cy1 (j1Y k ps hk hp hpl) hsl ?_;exact ⟨⟨by decide,by decide⟩,Ad (by omega)⟩
def dkS(k:KeyT.den)(u use:Nat):List UInt8:=kdfS k.2.2 (four u++ [UInt8.ofNat use]) [] k.2.2.length
def z0h(k:KeyT.den)(u use:Nat):(dkS k u use).length=k.2.2.length:=z4c _ _ _ _
theorem z1D(k:KeyT.den)(u:Nat)(hk:k.2.2.length<=64):PC Tryz.prog 160 [.agg (KeyT.cells k),rI u] (.fn 192 [] [.iptr KeyT k 0,.iptr (.int .i64) (u:Int) 0]):=by
 refine q0q rfl rfl ?_;refine q1T fi160 ?_;refine uQ 4 _ ?_;with_reducible refine sxE ?_
 refine q1P 2 0 (ty:=KeyT) (x:=k) rfl ⟨trivial,trivial,⟨by omega,fun _ _=>trivial⟩⟩ rfl rfl ?_;refine q1P 3 1 (ty:=.int .i64) (x:=(u:Int)) rfl trivial rfl rfl ?_;refine gQ ?_;trivial
theorem q5d(k:KeyT.den)(u use:Nat)(hk:k.2.2.length<=64)(h1:1<=k.2.2.length)(hu:use<256):PC Tryz.prog 192 [.raw (.int .u8 use),.iptr KeyT k 0,.iptr (.int .i64) (u:Int) 0] (.isl .u8 (dkS k u use)):=by
 obtain ⟨p,v,b⟩:=k;have hbl:b.length<=64:=hk;have hb1:1<=b.length:=h1;refine q0q rfl rfl ?_;refine rQ fi192 ?_;refine q0e (j7a u) ?_;refine gQ ?_;have hj:=z6Q [four u,[UInt8.ofNat use]] (by simp [four]) (by simp);rw [show [four u,[UInt8.ofNat use]].flatten=four u++ [UInt8.ofNat use] by simp] at hj;refine ⟨by rw [A8];omega,?_⟩;refine q0G 0 (by decide) ?_;with_reducible refine sxE ?_
 refine cR hj ?_;refine q0c ((j7k b (four u++ [UInt8.ofNat use]) [] b.length hbl (by simp [four]) (by simp) hb1 (by omega)).arg ?_) ?_
 . with_reducible refine sxE ?_;trivial
 refine gQ ?_;rfl
def ksB(key conf text:List UInt8)(i:Nat):UInt8:=text.getD i 0^^^ (hmS key (conf++four (i / 32+1))).getD (i%32) 0
def ksS(key conf text:List UInt8):List UInt8:=(List.range text.length).map (ksB key conf text)
def q9r(key conf text:List UInt8):(ksS key conf text).length=text.length:=by simp [ksS]
def z7F(key conf text:List UInt8)(hi:i<text.length):(ksS key conf text).getD i 0=ksB key conf text i:=by simp [ksS,Aa,hi]
theorem j4a(key conf text:List UInt8):ksS key conf (ksS key conf text)=text:=by
 apply Aw
 . rw [q9r,q9r]
 intro j h1 h2;have e:(ksS key conf (ksS key conf text))[j]=ksB key conf (ksS key conf text) j:=by rw [<-z7F key conf (ksS key conf text) (by rw [q9r];exact h2),Aa,Ac h1];rfl
 rw [e];unfold ksB;rw [z7F key conf text h2];unfold ksB;rw [BW,CQ,BI,Aa,Ac h2];rfl
def uOk(k:Key)(u:Int):Bool:=vKey k&& (decide (1<=u) && decide (u<=1023))
theorem z4d(k:Key)(u:Int)(ho:KeyT.ok k):PC Tryz.prog 159 [.agg (KeyT.cells k),rI u] (.tup [.agg (rawL (if uOk k u=true then kindOf k.1 else kindZ)),rI (if uOk k u=true then 0 else 2)]):=by
 have hf:=j2b k;obtain ⟨p,v,b⟩:=k;refine q0q rfl (by simp [SV.clean,SV.cleanL,q4z]) ?_;change PC _ _ _ (.tup [.agg (rawL (kindOf p)),rB (vKey (p,v,b))]) at hf;unfold uOk;show VC _ _ _ _ (PK (.tup [.agg (rawL (if (vKey (p,v,b) && (decide (1<=u) && decide (u<=1023)))=true then kindOf p else kindZ)),_]));generalize vKey (p,v,b)=vb at*;have h3:=q6f p;generalize kindOf p=kv at*;rcases h3 with rfl|rfl|rfl;all_goals
  cases vb
  . refine rQ fi159 ?_;refine cQ hf ?_;trivial
  by_cases h1:1<=u
  . have h1':(u<1)=False:=eq_false (by omega);by_cases h2:u<=1023
    . have h2':(1023<u)=False:=eq_false (by omega);refine rQ fi159 ?_;refine cy4 hf h1 h2 h1' h2' ?_;trivial
    have h2':(1023<u)=True:=eq_true (by omega);refine rQ fi159 ?_;refine cy4 hf h1 h2 h1' h2' ?_;trivial
  have h1':(u<1)=True:=eq_true (by omega);refine rQ fi159 ?_;refine q0a hf ?_;refine gy2 h1 h1' ?_;trivial
def z16:List UInt8:=List.replicate 16 0
def tg9S(k:Key)(u:Nat)(c:List UInt8):List UInt8:=if k.1=1 then (hmS (dkS k u 85) (z16++c)).take 16 else hmS (dkS k u 85) c
def z6h{t:Ty}{x:t.den}:rdPtr t [.iptr t x 0]=some (some x,True):=by simp [rdPtr]
def q1v{h:Nat}{t:Ty}{xs:List t.den}{L:List SObj}:∀ {G:List SObj},frzObH h t xs G->frzObH h t xs L->frzObH h t xs (G++L)
 | [],_,h2=>h2
 |_ :: _,h1,h2=>⟨h1.1,q1v h1.2 h2⟩
def q2J{f g:Nat->UInt8}(h:∀j,j<16->f j=g j):fS f=fS g:=by unfold fS;exact Ba fun j hj=>h j (BE.1 hj)
def j7u:∀j:Fin 16,shI j.val=4* ((j.val / 4+j.val%4)%4)+j.val%4∧shI j.val<16:=by decide
def shf_eq'(fw:List UInt8)(hf:∀c:UInt8,fw.getD c.toNat 0=subS c)(x:List UInt8):(fS fun j=>(fS fun j=>fw.getD (x.getD j 0).toNat 0).getD (shI j) 0)=shfS x:=by unfold shfS;refine q2J fun j hj=> ?_;have h:=j7u ⟨j,hj⟩;dsimp only at h;exact (q7E (fun j=>fw.getD (x.getD j 0).toNat 0) h.2).trans ((hf _).trans (by rw [h.1]))
def j6r(x:List UInt8):(fS fun j=>(fS fun j=>fwS.getD (x.getD j 0).toNat 0).getD (shI j) 0)=shfS x:=shf_eq' fwS z7I x
def z9y(w:List UInt8)(i j:Nat)(hj:j<16):(List.take 16 (List.drop (i*16) w)).getD (16*0+j) 0=w.getD (16*i+j) 0:=by simp only [Aa];rw [A3 (by omega),AA,show i*16+ (16*0+j)=16*i+j by omega]
variable {key:List UInt8}
def q5y(x:List UInt8)(i:Nat):addS x (rkK key i) 0=addS x (wordsS key) i:=by unfold addS rkK;refine q2J fun j hj=> ?_;rw [z9y (wordsS key) i j hj]
def encH(cp:CipT.den)(b k:List UInt8)(G:List SObj):List SObj:=.row PasT [(some cp,(b,k))] :: .cells 282 [.rptr 0 PasT 0 0] :: .cells 1 [opF 284,opF 285,opF 286,opF 268] :: .cells 287 [.csl 2 .u8 0 0 4] :: G
def prS(w b:List UInt8):Nat->List UInt8
 |0=>b
 |n+1=>encA w b n
def pkS(key:List UInt8):Nat->List UInt8
 |0=>z16
 |n+1=>rkK key n
def q9c(hk:key.length=16)(hi:i<11):(rkK key i).length=16:=by have:=q4d key hk;unfold rkK;rw [Ak,Aj];omega
def encOps(cp:CipT.den)(key:List UInt8)(hk:key.length=16)(hcp:cp=cipS key)(hi:i<11){rk x:List UInt8}(hrk:rk=rkK key i)(hpl:x.length=16):
 ∃s1 s2 s3 a0 a10 a4:List UInt8,OpE 284 (some cp,(x,rk)) (some cp,(s1,rk))∧OpE 285 (some cp,(s1,rk)) (some cp,(s2,rk))∧OpE 286 (some cp,(s2,rk)) (some cp,(s3,rk))∧
  OpE 268 (some cp,(x,rk)) (some cp,(a0,rk))∧OpE 268 (some cp,(s2,rk)) (some cp,(a10,rk))∧OpE 268 (some cp,(s3,rk)) (some cp,(a4,rk))∧
  a0=addS x (wordsS key) i∧(i=10->a10=rndE (wordsS key) i x)∧(i<10->a4=rndE (wordsS key) i x):=by
 have hrl:rk.length=16:=by rw [hrk];exact q9c hk hi
 have hc11:(cp.1.1:List UInt8)=fwS:=by rw [hcp];rfl
 have hsu:=q9C cp x rk hpl;have hsh:=j0V (some cp) (fS fun j=>(cp.1.1:List UInt8).getD (x.getD j 0).toNat 0) rk (q1U _);have he:(fS fun j=>(fS fun j=>(cp.1.1:List UInt8).getD (x.getD j 0).toNat 0).getD (shI j) 0)=shfS x:=by rw [hc11];exact j6r x
 rw [he] at hsh;refine ⟨_,_,_,_,_,_,hsu,hsh,j5Y (some cp) (shfS x) rk (q1U _),z3R (some cp) x rk hpl hrl,z3R (some cp) (shfS x) rk (q1U _) hrl,z3R (some cp) (mixS (shfS x) [2,3,1,1]) rk (q1U _) hrl,?_,?_,?_⟩
 . rw [hrk,q5y]
 . intro h;unfold rndE;rw [hrk,q5y,if_neg (by omega)]
 intro h;unfold rndE;rw [hrk,q5y,if_pos h]
def encHs(cp:CipT.den)(key b:List UInt8)(i:Nat)(H':List SObj):Prop:=∃G,(∀xs,frzObH 0 PasT xs G)∧H'=encH cp (prS (wordsS key) b i) (pkS key i) G
theorem z5k(key b:List UInt8)(hk:key.length=16)(hb:b.length=16):PC Tryz.prog 264 [.iptr CipT (cipS key) 0,.isl .u8 b] (.tup [.isl .u8 (encS (wordsS key) b),rI 0]):=by
 refine q0q rfl rfl (q3O (q1C noFG fi264 ?_));letI:Ghost:=topG noFG [];have hch:=z0K key b hb;have hrk:=q6j key false hk;have hit:=q6s key false hk;unfold rkF at hrk;obtain ⟨cp,hcp⟩:∃cp,cp=cipS key:=⟨_,rfl⟩;rw [<-hcp] at hch hrk hit⊢;have htb:List.take 16 b=b:=Ad (by omega);refine gQ ?_;refine q0a hch ?_;refine uQ 600 _ ?_;simp (maxSteps:=3000000) only [hb,htb,z6h,go_sem,↓zA,↓reduceIte,↓reduceDIte] <;>try simp only [zB]
 refine cQ hrk ?_;refine z5z (encHs cp key b) (fun _ _ _=>False) rfl rfl rfl hit (fun i n args' new h=>by rw [h.1];rfl) ⟨[],fun _=>trivial,rfl⟩ rfl ?_ ?_ ?_
 . rintro i _ args' new hi ⟨G,hG,rfl⟩ ⟨rfl,rfl⟩ L1 L2;letI:Ghost:=pinG noFG L1;rw [Ah];unfold encH;have hri:rkI false i=i:=rfl;have hrl:(rkK key i).length=16:=q9c hk hi;rw [hri];obtain ⟨rk,hrk⟩:∃rk,rk=rkK key i:=⟨_,rfl⟩;rw [<-hrk] at hrl⊢;refine uQ 600 _ ?_;simp only [putL,Bv];with_reducible refine sya1 hrl ?_
   letI:Ghost:=pinG noFG L2;have htr:List.take 16 rk=rk:=Ad (by omega);have hpl:(prS (wordsS key) b i).length=16:=by cases i with
    |zero=>exact hb
    |succ n=>exact q6N _ _ _
   obtain ⟨s1,s2,s3,a0,a10,a4,hsu,hsh,hmi,had0,had10,had4,h0,h10,h4⟩:=encOps cp key hk hcp hi hrk hpl;have e0:i=0->prS (wordsS key) b (i+1)=a0:=by rintro rfl;rw [h0];rfl
   have e10:i=10->prS (wordsS key) b (i+1)=a10:=by rintro rfl;rw [h10 rfl];rfl
   have e4:0<i->i<10->prS (wordsS key) b (i+1)=a4:=by
    intro h h';obtain ⟨j,rfl⟩:∃j,i=j+1:=⟨i-1,by omega⟩
    rw [h4 h'];rfl
   have ek:pkS key (i+1)=rk:=by rw [hrk];rfl
   have eH:∀ {G':List SObj} {y:List UInt8},(∀xs,frzObH 0 PasT xs G')->prS (wordsS key) b (i+1)=y->encHs cp key b (i+1) (encH cp y rk G'):=by intro G' y hg hy;exact ⟨G',hg,by rw [hy,ek]⟩
   clear h0 h10 h4 hcp hch hrk;generalize prS (wordsS key) b i=x at*;generalize pkS key i=rk0 at*;have hk2:(((i:Nat):Int)=0)=(i=0):=by simp
   rcases Cr i with h|h
   . have f1:(((i:Nat):Int)=0)=True:=eq_true (by omega);have e:=e0 h;clear e0 e10 e4 hsu hsh hmi had4 had10;refine uQ 600 _ ?_;simp (maxSteps:=3000000) only [f1,hrl,htr,Af,true_and,List.append_assoc,getA,getA0,setA,setA0,Ab,Nat.add_assoc,go_sem,↓zA,↓reduceIte,↓reduceDIte] <;>try simp only [zB]
     refine q0i [0,G.length+5] (z7k 268 _ _ had0) rfl (by simp) ?_ rfl rfl ?_
     . simp (maxSteps:=3000000) only [atH,sig,SObj.ren,SV.ren,SV.renL,SObj.live,opF,List.append_assoc,getA,getA0,setA,setA0,Ab,Nat.add_assoc,go_sem,↓zA,↓reduceIte,↓reduceDIte] <;>try simp only [zB]
     simp only [afterO,Out.ren,SV.ren,mgA,sig,SObj.ren,SV.renL,List.set,List.map,Ah,opF];refine aQ ?_;exact eH (fun xs=>q1v (hG xs) ⟨trivial,⟨trivial,trivial⟩,trivial⟩) e
   have f1:(((i:Nat):Int)=0)=False:=eq_false (by omega);rcases AI i 10 with h'|h'
   . have f2:(((i:Nat):Int)=10)=False:=eq_false (by omega);have e:=e4 h h';clear e0 e10 e4 had0 had10;refine uQ 600 _ ?_;simp (maxSteps:=3000000) only [f1,f2,hrl,htr,Af,true_and,List.append_assoc,getA,getA0,setA,setA0,Ab,Nat.add_assoc,go_sem,↓zA,↓reduceIte,↓reduceDIte] <;>try simp only [zB]
     refine q0i [0,2] (z6G 284 285 286 268 _ _ _ _ _ hsu hsh hmi had4) rfl (by simp) ?_ rfl rfl ?_
     . simp (maxSteps:=3000000) only [atH,sig,SObj.ren,SV.ren,SV.renL,SObj.live,opF,List.append_assoc,getA,getA0,setA,setA0,Ab,Nat.add_assoc,go_sem,↓zA,↓reduceIte,↓reduceDIte] <;>try simp only [zB]
     simp only [afterO,Out.ren,SV.ren,mgA,sig,SObj.ren,SV.renL,List.set,List.map,Ah,opF];refine aQ ?_;exact eH (fun xs=>q1v (hG xs) ⟨trivial,trivial⟩) e
   have f2:(((i:Nat):Int)=10)=True:=eq_true (by omega);have e:=e10 (by omega);clear e0 e10 e4 hmi had0 had4;refine uQ 600 _ ?_;simp (maxSteps:=3000000) only [f1,f2,hrl,htr,Af,true_and,List.append_assoc,getA,getA0,setA,setA0,Ab,Nat.add_assoc,go_sem,↓zA,↓reduceIte,↓reduceDIte] <;>try simp only [zB]
   refine q0i [0,G.length+5] (z6H 284 285 268 _ _ _ _ hsu hsh had10) rfl (by simp) ?_ rfl rfl ?_
   . simp (maxSteps:=3000000) only [atH,sig,SObj.ren,SV.ren,SV.renL,SObj.live,opF,List.append_assoc,getA,getA0,setA,setA0,Ab,Nat.add_assoc,go_sem,↓zA,↓reduceIte,↓reduceDIte] <;>try simp only [zB]
   simp only [afterO,Out.ren,SV.ren,mgA,sig,SObj.ren,SV.renL,List.set,List.map,Ah,opF];refine aQ ?_;exact eH (fun xs=>q1v (hG xs) ⟨trivial,⟨trivial,trivial,trivial,trivial⟩,trivial⟩) e
 . rintro D Hn ⟨G,hG,rfl⟩;letI:Ghost:=topG noFG [D];have hpl:(prS (wordsS key) b 11).length=16:=q6N _ _ _;have he:encS (wordsS key) b=prS (wordsS key) b 11:=rfl;rw [he];clear hcp hch hrk he;generalize prS (wordsS key) b 11=x at*;have hxt:List.take 16 x=x:=Ad (by omega);generalize pkS key 11=rk0 at*;unfold encH;refine uQ 6 _ ?_;with_reducible refine sxaE ?_
   refine z2B (ty:=PasT) 64 0 0 1 rfl rfl rfl (Nat.succ_pos _) (show 1<=1125899906842624 by decide) ?_ ?_ ?_
   . exact ⟨trivial,⟨trivial,trivial⟩,⟨trivial,trivial,trivial,trivial,trivial⟩,⟨trivial,trivial⟩,hG _⟩
   . with_reducible refine sxaE ?_;trivial
   with_reducible refine sxaE ?_
   refine aQ ?_;refine ⟨⟨by decide,Af _⟩,q0a (hxt.symm▸q2n x (by omega)) ?_⟩;refine aQ ?_;simp [SV.leV,hxt]
 rintro D i ex _ hi h;exact h.elim
def xorS(a b:List UInt8):List UInt8:=fS fun i=>a.getD i 0^^^ b.getD i 0
def q2i(a b:List UInt8):(xorS a b).length=16:=q1U _
def chA(w iv p:List UInt8):Nat->List UInt8×List UInt8
 |0=>(iv,[])
 |n+1=>(encS w (xorS ((p.take (16*n+16)).drop (16*n)) (chA w iv p n).1),(chA w iv p n).2++encS w (xorS ((p.take (16*n+16)).drop (16*n)) (chA w iv p n).1))
def chainS(key iv p:List UInt8):List UInt8:=(chA (wordsS key) iv p (p.length / 16)).2
def q6X(w iv p:List UInt8)(hi:iv.length=16)(n:Nat):(chA w iv p n).1.length=16∧(chA w iv p n).2.length=16*n:=by
 induction n with
 |zero=>exact ⟨hi,rfl⟩
 |succ n ih=>exact ⟨q4c _ _,by rw [chA];simp only [Ab,ih.2,q4c];omega⟩
def q6b(key iv p:List UInt8)(hi:iv.length=16):(chainS key iv p).length=16* (p.length / 16):=(q6X _ _ _ hi _).2
def zpN(n:Nat):Nat:=(16-n%16)%16
def zpL(p:List UInt8)(k:Nat):List UInt8:=p++List.replicate k 0
def z2m(p:List UInt8)(k:Nat):(zpL p k).length=p.length+k:=by simp [zpL]
def exchS(c:List UInt8):List UInt8:=c.take (c.length-32)++c.drop (c.length-16)++(c.take (c.length-16)).drop (c.length-32)
def ctsE(key iv p:List UInt8):List UInt8:=
 let c:=chainS key iv (zpL p (zpN p.length))
 if c.length=16 then c else (exchS c).take p.length
def whN(n:Nat):Nat:=(n+15) / 16*16
def unexS(w c:List UInt8):List UInt8:=
 let f:=(c.take (whN c.length-16)).drop (whN c.length-32)
 let k:=c.drop (whN c.length-16)
 c.take (whN c.length-32)++(k++(decS w f).drop k.length)++f
def dchA(w iv ch:List UInt8):Nat->List UInt8×List UInt8
 |0=>(iv,[])
 |n+1=>((ch.take (16*n+16)).drop (16*n),(dchA w iv ch n).2++xorS (decS w ((ch.take (16*n+16)).drop (16*n))) (dchA w iv ch n).1)
def unchS(w iv ch:List UInt8):List UInt8:=(dchA w iv ch (ch.length / 16)).2
def ctsD(key iv c:List UInt8):List UInt8:=
 if c.length=16 then xorS (decS (wordsS key) c) iv else (unchS (wordsS key) iv (unexS (wordsS key) c)).take c.length
def j0e(w iv ch:List UInt8)(hi:iv.length=16)(n:Nat)(hn:16*n<=ch.length):(dchA w iv ch n).1.length=16∧(dchA w iv ch n).2.length=16*n:=by
 induction n with
 |zero=>exact ⟨hi,rfl⟩
 |succ n ih=>
  refine ⟨?_,?_⟩
  . rw [dchA];simp only [Aj,Ak];omega
  rw [dchA];simp only [Ab,(ih (by omega)).2,q2i];omega
def z7H(w c:List UInt8)(hc:16<c.length):(unexS w c).length=whN c.length:=by unfold unexS;simp only [Ab,Ak,Aj,q5f];unfold whN;omega
def j1u{b:List UInt8}(hb:b.length=16):(fS fun j=>b.getD j 0)=b:=by
 apply Aw
 . rw [q1U,hb]
 intro j h1 h2;simp [fS,Aa,h2]
def q9y(b w:List UInt8)(r:Nat)(hb:b.length=16):addS (addS b w r) w r=b:=by
 conv=>rhs;rw [<-j1u hb]
 unfold addS;refine q2J fun j hj=> ?_;rw [q7E _ hj,BW,CQ,BI]
def j3e(c:UInt8):invS (subS c)=c:=z8n (p:=fun c=>invS (subS c)=c) (by decide+kernel) c
def j0U:∀j:Fin 16,srcU j.val<16∧4* ((srcU j.val / 4+srcU j.val%4)%4)+srcU j.val%4=j.val:=by decide
def z6V(b:List UInt8)(hb:b.length=16):unsS (shfS b)=b:=by
 conv=>rhs;rw [<-j1u hb]
 unfold unsS shfS;refine q2J fun j hj=> ?_;have h:=j0U ⟨j,hj⟩;dsimp only at h;rw [q7E _ h.1,j3e,h.2]
def top8(b:UInt8):(128<=b.toNat) ↔ b.toNat.testBit 7=true:=by have:=b.toNat_lt;rw [Nat.testBit_eq_decide_div_mod_eq];simp;omega
def z5F(b:UInt8):dblS b=(b<<<1) ^^^ (if b.toNat.testBit 7=true then 27 else 0):=by
 unfold dblS;by_cases h:128<=b.toNat
 . rw [if_pos h,if_pos ((top8 b).1 h)]
 rw [if_neg h,if_neg (fun h'=>h ((top8 b).2 h')),BI]
def xor4(p q x y:UInt8):p^^^ q^^^ (x^^^ y)=p^^^ x^^^ (q^^^ y):=by rw [BW,BW,<-BW q,UInt8.xor_comm q x,BW]
theorem j4c(x y:UInt8):dblS (x^^^ y)=dblS x^^^ dblS y:=by
 rw [z5F,z5F x,z5F y,xor4,show (x^^^ y) <<<1=x<<<1^^^ y<<<1 by
  apply UInt8.toBitVec_inj.1
  simp [BitVec.shiftLeft_xor_distrib],Dd,Nat.testBit_xor]
 cases x.toNat.testBit 7<;>cases y.toNat.testBit 7<;>rfl
def q9U:∀ (n a:Nat) (x y p q:UInt8),mulA n a (x^^^ y) (p^^^ q)=mulA n a x p^^^ mulA n a y q
 |0,_,_,_,_,_=>rfl
 |n+1,a,x,y,p,q=>by
  unfold mulA;by_cases h0:a=0
  . rw [if_pos h0,if_pos h0,if_pos h0]
  rw [if_neg h0,if_neg h0,if_neg h0,j4c];by_cases h1:a%2=1
  . rw [if_pos h1,if_pos h1,if_pos h1,xor4];exact q9U n _ _ _ _ _
  rw [if_neg h1,if_neg h1,if_neg h1];exact q9U n _ _ _ _ _
def j3d(a x y:UInt8):mulS a (x^^^ y)=mulS a x^^^ mulS a y:=by have:=q9U 8 a.toNat x y 0 0;rwa [CQ] at this
def mixC(e x:UInt8):Prop:=
 (mulS 14 (mulS 2 x) ^^^ mulS 11 x^^^ mulS 13 x^^^ mulS 9 (mulS 3 x)=x)∧(mulS 14 (mulS 3 x) ^^^ mulS 11 (mulS 2 x) ^^^ mulS 13 x^^^ mulS 9 x=e)
 ∧(mulS 14 x^^^ mulS 11 (mulS 3 x) ^^^ mulS 13 (mulS 2 x) ^^^ mulS 9 x=e)∧(mulS 14 x^^^ mulS 11 x^^^ mulS 13 (mulS 3 x) ^^^ mulS 9 (mulS 2 x)=e)
instance (e x:UInt8):Decidable (mixC e x):=by unfold mixC;infer_instance
def q6y(x:UInt8):mixC 0 x:=z8n (p:=mixC 0) (by decide+kernel) x
def mul_one'(x:UInt8):mulS 1 x=x:=z8n (p:=fun x=>mulS 1 x=x) (by decide+kernel) x
def rot4(a b c d:UInt8):a^^^ b^^^ c^^^ d=b^^^ c^^^ d^^^ a:=by ac_rfl
def rot2(a b c d:UInt8):a^^^ b^^^ c^^^ d=c^^^ d^^^ a^^^ b:=by ac_rfl
def rot1(a b c d:UInt8):a^^^ b^^^ c^^^ d=d^^^ a^^^ b^^^ c:=by ac_rfl
def xor16(a b c d e f g h i j k l m n o p:UInt8):(a^^^ b^^^ c^^^ d) ^^^ (e^^^ f^^^ g^^^ h) ^^^ (i^^^ j^^^ k^^^ l) ^^^ (m^^^ n^^^ o^^^ p)=(a^^^ e^^^ i^^^ m) ^^^ (b^^^ f^^^ j^^^ n) ^^^ (c^^^ g^^^ k^^^ o) ^^^ (d^^^ h^^^ l^^^ p):=by ac_rfl
def mixA4(b:List UInt8)(x0 x1 x2 x3:UInt8)(c r:Nat):mixA b [x0,x1,x2,x3] c r 4=mulS ([x0,x1,x2,x3].getD ((4-r)%4) 0) (b.getD (4*c) 0) ^^^ mulS ([x0,x1,x2,x3].getD ((5-r)%4) 0) (b.getD (4*c+1) 0) ^^^ mulS ([x0,x1,x2,x3].getD ((6-r)%4) 0) (b.getD (4*c+2) 0) ^^^ mulS ([x0,x1,x2,x3].getD ((7-r)%4) 0) (b.getD (4*c+3) 0):=by simp only [mixA,Ae,AB];rw [BO]
def q8V(b:List UInt8)(x0 x1 x2 x3:UInt8){c r:Nat}(hc:c<4)(hr:r<4):(mixS b [x0,x1,x2,x3]).getD (4*c+r) 0=mixA b [x0,x1,x2,x3] c r 4:=by unfold mixS;rw [q7E _ (by omega),show (4*c+r) / 4=c by omega,show (4*c+r)%4=r by omega]
theorem j2A(b:List UInt8)(hb:b.length=16):mixS (mixS b [2,3,1,1]) [14,11,13,9]=b:=by
 conv=>rhs;rw [<-j1u hb]
 conv=>lhs;unfold mixS
 refine q2J fun j hj=> ?_;obtain ⟨c,r,hc,hr,rfl⟩:∃c r,c<4∧r<4∧j=4*c+r:=⟨j / 4,j%4,by omega,by omega,by omega⟩
 rw [show (4*c+r) / 4=c by omega,show (4*c+r)%4=r by omega,mixA4];have g0:=q8V b 2 3 1 1 hc (r:=0) (by decide);have g1:=q8V b 2 3 1 1 hc (r:=1) (by decide);have g2:=q8V b 2 3 1 1 hc (r:=2) (by decide);have g3:=q8V b 2 3 1 1 hc (r:=3) (by decide);change (mixS b [2,3,1,1]).getD (4*c) 0=_ at g0;rw [mixA4] at g0 g1 g2 g3;unfold mixS at g0 g1 g2 g3;rw [g0,g1,g2,g3];clear g0 g1 g2 g3;have e0:=q6y (b.getD (4*c) 0);have e1:=q6y (b.getD (4*c+1) 0);have e2:=q6y (b.getD (4*c+2) 0);have e3:=q6y (b.getD (4*c+3) 0);unfold mixC at e0 e1 e2 e3;rcases (show r=0∨r=1∨r=2∨r=3 by omega) with rfl|rfl|rfl|rfl;all_goals
  rw [AB] at*;generalize b.getD (4*c) 0=a0 at*;generalize b.getD (4*c+1) 0=a1 at*;generalize b.getD (4*c+2) 0=a2 at*;generalize b.getD (4*c+3) 0=a3 at*;simp only [CM,Nat.reduceSub,Nat.reduceMod,BJ,Bw,j3d,mul_one'];rw [xor16]
 . rw [e0.1,e1.2.1,e2.2.2.1,e3.2.2.2,BI,BI,BI]
 . rw [rot4 _ _ _ (mulS 13 (mulS 3 a0)),rot4 _ _ _ (mulS 13 a1),rot4 _ _ _ (mulS 13 a2),rot4 _ _ _ (mulS 13 (mulS 2 a3)),e0.2.2.2,e1.1,e2.2.1,e3.2.2.1,BO,BI,BI]
 . rw [rot2 _ _ _ (mulS 11 (mulS 3 a0)),rot2 _ _ _ (mulS 11 a1),rot2 _ _ _ (mulS 11 a2),rot2 _ _ _ (mulS 11 (mulS 2 a3)),e0.2.2.1,e1.2.2.2,e2.1,e3.2.1,BO,BO,BI]
 rw [rot1 _ _ _ (mulS 14 (mulS 3 a0)),rot1 _ _ _ (mulS 14 a1),rot1 _ _ _ (mulS 14 a2),rot1 _ _ _ (mulS 14 (mulS 2 a3)),e0.2.1,e1.2.2.1,e2.2.2.2,e3.1,BO,BO,BO]
def z5S(w b:List UInt8)(hb:b.length=16)(r:Nat):rndD w r (rndE w r b)=b:=by
 unfold rndD rndE mixD;have hs:=z9Q b;by_cases h:r<10
 . rw [if_pos h,if_pos h,q9y _ _ _ (z9E _ _),j2A _ hs,z6V b hb]
 rw [if_neg h,if_neg h,q9y _ _ _ hs,z6V b hb]
def z6U(w b:List UInt8)(hb:b.length=16):decS w (encS w b)=b:=by
 have h:∀n,n<=10->decA w (encS w b) n=encA w b (10-n):=by
  intro n;induction n with
  |zero=>intro _;rfl
  |succ n ih=>intro hn;rw [decA,ih (by omega),show 10-n=10- (n+1)+1 by omega,encA,z5S _ _ (q6N _ _ _)]
 unfold decS;rw [h 10 (Af _)];exact q9y b w 0 hb
def z9T(a b:List UInt8)(ha:a.length=16):xorS (xorS a b) b=a:=by
 conv=>rhs;rw [<-j1u ha]
 unfold xorS;refine q2J fun j hj=> ?_;rw [q7E _ hj,BW,CQ,BI]
def z3P(w iv z:List UInt8)(hi:iv.length=16)(n:Nat):∀m,((chA w iv z (n+m)).2).take (16*n)=(chA w iv z n).2
 |0=>Ad (by rw [(q6X w iv z hi _).2];exact Af _)
 |m+1=>by rw [show n+ (m+1)=n+m+1 by omega,chA,AS (by rw [(q6X w iv z hi _).2];omega)];exact z3P w iv z hi n m
def z2w(w iv z:List UInt8)(hi:iv.length=16)(n m:Nat)(h:n<m):(((chA w iv z m).2).take (16*n+16)).drop (16*n)=(chA w iv z (n+1)).1:=by
 obtain ⟨d,rfl⟩:∃d,m=n+1+d:=⟨m-n-1,by omega⟩
 rw [show 16*n+16=16* (n+1) by omega,z3P w iv z hi,chA];dsimp only;rw [BX (q6X w iv z hi _).2]
theorem z3e(z:List UInt8)(n:Nat):z.take (16*n)++(z.take (16*n+16)).drop (16*n)=z.take (16* (n+1)):=by
 have h:(z.take (16*n+16)).take (16*n)=z.take (16*n):=by rw [CR];congr 1;omega
 rw [<-h,AJ];rfl
def z8p(w iv z:List UInt8)(hi:iv.length=16)(m:Nat)(hz:16*m<=z.length):∀n,n<=m->dchA w iv (chA w iv z m).2 n=((chA w iv z n).1,z.take (16*n))
 |0,_=>rfl
 |n+1,h=>by rw [dchA,z2w w iv z hi n m (by omega),z8p w iv z hi m hz n (by omega)];dsimp only;refine Prod.ext rfl ?_;dsimp only;rw [show (chA w iv z (n+1)).1=encS w (xorS ((z.take (16*n+16)).drop (16*n)) (chA w iv z n).1) from rfl,z6U _ _ (q2i _ _),z9T _ _ (by rw [Aj,Ak];omega),z3e]
def z4O(key iv z:List UInt8)(hi:iv.length=16)(hz:z.length%16=0):unchS (wordsS key) iv (chainS key iv z)=z:=by unfold unchS;rw [q6b _ _ _ hi,B0 _ (by decide)];unfold chainS;rw [z8p _ _ _ hi _ (by omega) _ (Af _)];exact Ad (by omega)
theorem z7R(w A x y:List UInt8)(n:Nat)(hA:A.length=whN n-32)(hx:x.length=16)(hy:y.length=16)(hn:16<n)(hd:(decS w y).drop (n- (whN n-16))=x.drop (n- (whN n-16))):unexS w ((A++y++x).take n)=A++x++y:=by
 have hw:whN n=(n+15) / 16*16:=rfl;have hl:(A++y++x).length=whN n:=by simp only [Ab];omega
 have hln:((A++y++x).take n).length=n:=by rw [Ak];omega
 unfold unexS;rw [hln];generalize whN n=N at*;have e1:((A++y++x).take n).take (N-32)=A:=by rw [CR,show min (N-32) n=A.length by omega,List.append_assoc,B1]
 have e2:(((A++y++x).take n).take (N-16)).drop (N-32)=y:=by rw [CR,show min (N-16) n=(A++y).length by simp only [Ab];omega,B1,BX (by omega)]
 have e3:((A++y++x).take n).drop (N-16)=x.take (n- (N-16)):=by rw [BH,BX (by simp only [Ab];omega)]
 rw [e1,e2,e3];have hk:(x.take (n- (N-16))).length=n- (N-16):=by rw [Ak];omega
 dsimp only;rw [hk,hd,AJ]
def z5A(c:List UInt8)(h:32<=c.length):∃A x y,c=A++x++y∧A.length=c.length-32∧x.length=16∧y.length=16∧x=(c.take (c.length-16)).drop (c.length-32)∧y=c.drop (c.length-16):=by
 refine ⟨c.take (c.length-32),(c.take (c.length-16)).drop (c.length-32),c.drop (c.length-16),?_,?_,?_,?_,rfl,rfl⟩
 . have h1:(c.take (c.length-16)).take (c.length-32)=c.take (c.length-32):=by rw [CR];congr 1;omega
   rw [<-h1,AJ,AJ]
 . rw [Ak];omega
 . rw [Aj,Ak];omega
 rw [Aj];omega
def z9k(A x y:List UInt8)(hx:x.length=16)(hy:y.length=16):exchS (A++x++y)=A++y++x:=by
 have hl:(A++x++y).length=A.length+32:=by simp only [Ab];omega
 unfold exchS;have e1:(A++x++y).take ((A++x++y).length-32)=A:=by rw [hl,BT,List.append_assoc,B1]
 have e2:(A++x++y).drop ((A++x++y).length-16)=y:=by rw [hl];exact BX (by simp only [Ab];omega)
 have e3:((A++x++y).take ((A++x++y).length-16)).drop ((A++x++y).length-32)=x:=by rw [hl,show A.length+32-16=(A++x).length by simp only [Ab];omega,B1,BT,List.drop_left]
 rw [e1,e2,e3]
theorem z9J(z x:List UInt8)(hx:x.length=16)(k:Nat)(hz:∀j,k<=j->z.getD j 0=0):(xorS z x).drop k=x.drop k:=by
 apply Aw
 . rw [Aj,Aj,q2i,hx]
 intro j h1 h2;rw [Aj] at h2;rw [Ca,Ca];have hj:k+j<16:=by omega
 have h:=q7E (fun i=>z.getD i 0^^^ x.getD i 0) hj;rw [Aa,Ac (by rw [q1U];exact hj)] at h;refine Eq.trans h ?_;rw [hz _ (by omega),BO,Aa,Ac (by omega)];rfl
def j3H(key iv p:List UInt8)(hi:iv.length=16)(h1:16<=p.length):ctsD key iv (ctsE key iv p)=p:=by
 have hz:zpN p.length=(16-p.length%16)%16:=rfl;have hzl:=z2m p (zpN p.length);have hzt:(zpL p (zpN p.length)).take p.length=p:=B1 ..;have hzg:∀j,p.length<=j->(zpL p (zpN p.length)).getD j 0=0:=by intro j hj;unfold zpL;rw [Aa,Ao hj,Ct];split<;>rfl
 have hun:=z4O key iv (zpL p (zpN p.length)) hi (by omega);have hcl:=q6b key iv (zpL p (zpN p.length)) hi;unfold ctsE;dsimp only;by_cases h:(chainS key iv (zpL p (zpN p.length))).length=16
 . rw [if_pos h];have hp:p.length=16:=by omega
   have hzp:zpL p (zpN p.length)=p:=by unfold zpL;rw [show zpN p.length=0 by omega];simp
   rw [hzp] at hun h⊢;unfold ctsD;rw [if_pos h]
   conv=>rhs;rw [<-hun]
   unfold unchS;rw [h];show _=((dchA _ _ _ 0).2++xorS (decS (wordsS key) (((chainS key iv p).take (16*0+16)).drop (16*0))) (dchA _ _ _ 0).1)
   rw [show ((chainS key iv p).take (16*0+16)).drop (16*0)=chainS key iv p by
    rw [Av];exact Ad (by omega)]
   rfl
 rw [if_neg h];have hc:chainS key iv (zpL p (zpN p.length))=(chA (wordsS key) iv (zpL p (zpN p.length)) (whN p.length / 16)).2:=by unfold chainS;rw [hzl];congr 2;unfold whN zpN;omega
 have hN:(chainS key iv (zpL p (zpN p.length))).length=whN p.length:=by unfold whN;omega
 have hw:whN p.length=(p.length+15) / 16*16:=rfl;obtain ⟨A,x,y,he,hA,hx,hy,hxe,hye⟩:=z5A (chainS key iv (zpL p (zpN p.length))) (by omega);rw [hN] at hA hxe hye;rw [he,z9k A x y hx hy];have hxl:(A++y++x).length=whN p.length:=by simp only [Ab];omega
 have hd:(decS (wordsS key) y).drop (p.length- (whN p.length-16))=x.drop (p.length- (whN p.length-16)):=by
  obtain ⟨n,hn⟩:∃n,whN p.length=16* (n+2):=⟨(p.length+15) / 16-2,by omega⟩
  rw [hc,hn] at hxe hye;rw [B0 _ (by decide)] at hxe hye;have hx2:x=(chA (wordsS key) iv (zpL p (zpN p.length)) (n+1)).1:=by rw [hxe,show 16* (n+2) -16=16*n+16 by omega,show 16* (n+2) -32=16*n by omega];exact z2w _ _ _ hi n (n+2) (by omega)
  have hy2:y=(chA (wordsS key) iv (zpL p (zpN p.length)) (n+2)).1:=by have hb:=z2w (wordsS key) iv (zpL p (zpN p.length)) hi (n+1) (n+2) (by omega);rw [<-hb,hye,show 16* (n+2) -16=16* (n+1) by omega,Ad];rw [(q6X _ _ _ hi _).2];omega
  have hy3:y=encS (wordsS key) (xorS (((zpL p (zpN p.length)).take (16* (n+1)+16)).drop (16* (n+1))) x):=by rw [hy2,hx2];rfl
  rw [hy3,z6U _ _ (q2i _ _)];refine z9J _ _ hx _ fun j hj=> ?_;rw [Ad (by omega),Aa,AA,<-Aa];exact hzg _ (by omega)
 have hue:=z7R (wordsS key) A x y p.length hA hx hy (by omega) hd;unfold ctsD;rw [hue,<-he,hun,Ak,hxl,if_neg (by omega),show min p.length (whN p.length)=p.length by omega,hzt]
end Go.Proofs.YthbcodbcndiapaaGreatDoor