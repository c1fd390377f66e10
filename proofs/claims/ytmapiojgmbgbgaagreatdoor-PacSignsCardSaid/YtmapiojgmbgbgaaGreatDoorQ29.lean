/- HMAC: contracts: the program's key blocks. -/
import Derived.Test.YtmapiojgmbgbgaaGreatDoorQ28
set_option linter.all false
namespace Go.Proofs.YtmapiojgmbgbgaaGreatDoor
open Go Go.Sx Go.Proofs
set_option maxRecDepth 100000
set_option maxHeartbeats 40000000
theorem z6e{h k n N:Nat}{t e:Ty}{x:t.den}{ys:List e.den}(ha:t.arrAt x k=some ⟨e,N,ys⟩)(hne:t≠e)(hn:n=N)(hl:ys.length=n)(hb:n≤1125899906842624):Bor h t [x] (.csl h e k 0 n) (.isl e ys):=by
 refine .csl (p:=0+n≤N) ?_ (by omega) hb
 simp only [ownPart];rw [dif_neg hne];simp only [ha,dite_true,cast_eq,As];rw [Aa (by omega)]
theorem j2V{h n:Nat}{t:Ty}{xs:List t.den}(hl:xs.length=n):Bor h t xs (.osl h t 0 n) (.isl t xs):=by
 have:=Bor.osl (h:=h) (t:=t) (xs:=xs) (off:=0) (n:=n) (by omega)
 rwa [As,Aa (by omega)] at this
theorem z4p{h n:Nat}{xs:List UInt8}(hl:xs.length=n)(h0:0<n):Bor h .u8 xs (.rptr h .u8 0 0) (.iptr (.arr n .u8) xs 0):=by
 subst hl;exact .ptr (.inr ⟨rfl,rfl,rfl,h0,.rfl⟩)
theorem j1f{h:Nat}{t:Ty}{x:t.den}(hg:t.get x 0 t.size=some ⟨t,x⟩):Bor h t [x] (.rptr h t 0 0) (.iptr t x 0):=.ptr (.inl ⟨x,rfl,by rw [Bh];exact hg⟩)
theorem j2q(w:List UInt8)(c:UInt8)(_hw:w.length=64):PC Tryz.prog 255 [.raw (.int .u8 c.toNat),.iptr (.arr 64 .u8) w 0] (.dat (.arr 64 .u8) (hkP w c 64)):=by
 refine q0p rfl rfl ?_;refine rQ fi255 ?_;refine q0i (ι:=Nat) (fun i=>[(7,rI i)]) (fun i=>[.row .u8 (hkP w c i)]) (fun i=>64-i) (fun i=>i≤64) 0 (Ak _) (by rw [q9S];first|done|rfl) ?_ ?_
 · with_reducible refine sxE ?_;trivial
 intro i hi;have hwr:=wsx i (by omega)
 have hpl:=q2Z w c i;by_cases h64:i<64
 · have hx8:=xor8 (w.getD i 0) c;refine gyd3 hpl hx8 Ab ?_;refine ⟨fun _=>⟨⟨by omega,h64⟩,⟨by omega,h64⟩,⟨h64,by rw [UInt8.ofNat_toNat]⟩,i+1,h64,by dsimp only;omega,?_,?_⟩,fun h=>absurd h (by omega)⟩
   · rw [BU,q7R w c h64]
   with_reducible refine sx1 hwr ?_;trivial
 obtain rfl:i=64:=by omega
 refine gy2 hpl Ab ?_;refine ⟨fun h=>absurd h (by omega),fun _=> ?_⟩
 have e:List.take 64 (hkP w c 64)++List.drop (List.take 64 (hkP w c 64)).length (hkP w c 64)=hkP w c 64:=by
  rw [Aa (by omega),hpl,AN (by omega),Ai]
 rw [e,if_pos hpl];exact ⟨_,rfl,rfl⟩
def hz0:HaD:=(List.replicate 8 0,List.replicate 64 0,0)
theorem z0x:HRep [] hz0:=j0h
theorem j3U(o i:List UInt8)(x:HaD)(rd:Bool)(hi:i.length=64):PE Tryz.prog 256 [.rptr 0 MH 0 0] [.row MH [((o,i),(x,rd))]] (.ret (.dat HH (wrS [] hz0 i))) [.row MH [((o,i),(x,rd))]]:=by
 refine q0b (Ag _) ?_;refine rQ fi256 ?_;refine ⟨⟨by decide,by decide⟩,?_⟩
 refine q0P [1,0] (z3p (t:=MH) (xs:=[((o,i),(x,rd))]) (z2I [] i hz0 z0x (by simp;omega)) rfl rfl rfl rfl (by simp) (.cons (.keep rfl) (.cons (z6e rfl (by decide) rfl hi (by decide)) .nil))) rfl (by decide) (by repeat first|exact trivial|exact rfl|refine And.intro ?_ ?_) rfl rfl ?_
 simp only [afterO,Out.ren,SV.ren,mgA,sig,SObj.ren,SV.renL,List.set,List.map,Ai,Az,Au];refine gQ ?_;trivial
theorem j0S(o i d:List UInt8)(x:HaD)(rd:Bool)(ho:o.length=64)(hd:d.length=32):PE Tryz.prog 258 [.rptr 0 MH 0 0,.dat (.arr 32 .u8) d] [.row MH [((o,i),(x,rd))]] (.ret (.dat (.arr 32 .u8) (shaS (o++d)))) [.row MH [((o,i),(x,rd))]]:=by
 refine q0b (Ag _) ?_;refine rQ fi258 ?_;refine ⟨⟨by decide,by decide⟩,?_⟩
 refine q0P [3,0] (z3p (t:=MH) (xs:=[((o,i),(x,rd))]) (z2I [] o hz0 z0x (by simp;omega)) rfl rfl rfl rfl (by simp) (.cons (.keep rfl) (.cons (z6e rfl (by decide) rfl ho (by decide)) .nil))) rfl (by decide) (by repeat first|exact trivial|exact rfl|refine And.intro ?_ ?_) rfl rfl ?_
 simp only [afterO,Out.ren,SV.ren,mgA,sig,SObj.ren,SV.renL,List.set,List.map,Ai,Az,Au];have hr1:HRep o (wrS [] hz0 o):=z0z z0x;have hr2:HRep (o++d) (wrS o (wrS [] hz0 o) d):=z0z hr1;generalize wrS [] hz0 o=y1 at*;generalize hy:wrS o y1 d=y at*;have hw2:=hy▸z2I o d y1 hr1 (by omega)
 refine gQ ?_;refine ⟨⟨by decide,by decide⟩,?_⟩
 refine q0P [3,1] (z3p (t:=.u8) (xs:=d) hw2 (by simp only [AF,BL]) rfl rfl rfl (by omega) (.cons (.keep rfl) (.cons (j2V hd) .nil))) rfl (by decide) (by repeat first|exact trivial|exact rfl|refine And.intro ?_ ?_) rfl rfl ?_
 simp only [afterO,Out.ren,SV.ren,mgA,sig,SObj.ren,SV.renL,List.set,List.map,Ai,Az,Au];refine gQ ?_;refine q0P [3] (q6W (t:=HH) (xs:=[y]) (j2G (o++d) y hr2 (by simp;omega)) rfl (by simp) (.cons (j1f rfl) .nil)) rfl (by decide) (by repeat first|exact trivial|exact rfl|refine And.intro ?_ ?_) rfl rfl ?_
 simp only [afterO,Out.ren,SV.ren,mgA,sig,SObj.ren,SV.renL,List.set,List.map,Ai,Az,Au];have hsl:(shaS (o++d)).length=32:=q0V _;refine gy1 hsl ?_;trivial
def padK(k:List UInt8):List UInt8:=hkC k++List.replicate (64- (hkC k).length) 0
theorem j2N(k:List UInt8):(hkC k).length≤64:=by
 unfold hkC;split
 · have:(shaS k).length=32:=q0V _;omega
 omega
theorem j1A(k:List UInt8):(padK k).length=64:=by
 have:=j2N k;unfold padK;rw [Ac,Bc];omega
theorem z6f(k:List UInt8)(c:UInt8):hkP (padK k) c 64=hkS k c:=by
 unfold hkS hkP;apply BM;intro i hi;have hi':i<64:=Cp.1 hi;rw [if_pos hi',if_pos hi'];congr 1;unfold padK;rw [Ad,Ad];rcases AC i (hkC k).length with h|h
 · rw [Ah h]
 rw [Ao h,AL h,List.getElem?_replicate];split<;>rfl
def macI(k:List UInt8):(List UInt8×List UInt8)×(HaD×Bool):=((hkS k 92,hkS k 54),(wrS [] hz0 (hkS k 54),true))
theorem j4d{ty:Ty}{x:ty.den}{v:Value}{H':List SObj}{h:Nat}(hH:H'[h]?=some (.row ty [x])):Weak 0 (fun o' H''=>o'= .ret (.tup [.rptr 0 ty 0 0,.raw v])∧H''= [.row ty [x]]) (.ret (.tup [.rptr h ty 0 0,.raw v])) H':=
 ⟨fun _=>h,.tup [.rptr 0 ty 0 0,.raw v],.tup [.rptr 0 ty 0 0,.raw v],[.row ty [x]],⟨⟨rfl,trivial⟩,⟨hH,trivial⟩,rfl,rfl,rfl,rfl,Ak _,fun _ h0=>absurd h0 (CB 0)⟩,.inl (.inl rfl),⟨rfl,rfl⟩⟩
abbrev HTT:Ty:=HH 
abbrev MTT:Ty:=MH 
theorem j5s(k:List UInt8)(hk:k.length≤64):PE Tryz.prog 225 [.isl .u8 k] [] (.ret (.tup [.rptr 0 MH 0 0,rI 0])) [.row MH [macI k]]:=by
 have c1:(4096< (k.length:Int))=False:=eq_false (by omega)
 have c2:(64< (k.length:Int))=False:=eq_false (by omega)
 have hkc:hkC k=k:=if_neg (by omega)
 have hkm:min k.length 64=k.length:=by omega
 have hpl:=j1A k;refine j6C ?_;refine q3E fi225 ?_;refine uQ 600 _ ?_;simp (maxSteps:=3000000) only [c1,c2,hkm,AA,go_sem,↓zA,↓reduceIte,↓reduceDIte] <;>try simp only [zB]
 have hrow:∀l,l=List.replicate 64 (0:UInt8)→k++List.drop (0+k.length) l=padK k:=fun l hl=>by
  subst hl;unfold padK;rw [hkc,Ab,List.drop_replicate]
 rw [hrow]
 case a=>rfl
 refine ⟨⟨by decide,by decide⟩,by omega,?_⟩
 refine q0P [0] (q6W (t:=.u8) (xs:=padK k) (j2q (padK k) 92 hpl) rfl (by omega) (.cons (.keep rfl) (.cons (z4p hpl (by decide)) .nil))) rfl (by decide) (by repeat first|exact trivial|exact rfl|refine And.intro ?_ ?_) rfl rfl ?_
 simp only [afterO,Out.ren,SV.ren,mgA,sig,SObj.ren,SV.renL,List.set,List.map,Ai,Az,Au];refine gQ ?_;refine q0P [0] (q6W (t:=.u8) (xs:=padK k) (j2q (padK k) 54 hpl) rfl (by omega) (.cons (.keep rfl) (.cons (z4p hpl (by decide)) .nil))) rfl (by decide) (by repeat first|exact trivial|exact rfl|refine And.intro ?_ ?_) rfl rfl ?_
 simp only [afterO,Out.ren,SV.ren,mgA,sig,SObj.ren,SV.renL,List.set,List.map,Ai,Az,Au];rw [z6f,z6f];refine gQ ?_;refine eQ [1] (j3U (hkS k 92) (hkS k 54) _ true (q2Z _ _ _)) ?_;exact j4d rfl
theorem j0s(m b:List UInt8)(ks:List UInt8×List UInt8)(x:HaD)(hx:HRep m x)(hl:m.length+b.length≤70368744177664):PE Tryz.prog 226 [.rptr 0 MH 0 0,.isl .u8 b] [.row MH [(ks,(x,true))]] (.ret (rI 0)) [.row MH [(ks,(wrS m x b,true))]]:=by
 refine q0b (Ag _) ?_;refine rQ fi226 ?_;refine eQ [0] (z9F m b x ks true hx hl) ?_;trivial
theorem j5v(m:List UInt8)(o i:List UInt8)(x:HaD)(hx:HRep m x)(hl:m.length≤70368744177664)(ho:o.length=64):PE Tryz.prog 227 [.rptr 0 MH 0 0] [.row MH [((o,i),(x,true))]] (.ret (.tup [.dat (.arr 32 .u8) (shaS (o++shaS m)),rI 0])) [.row MH [((o,i),(x,true))]]:=by
 have hsl:(shaS m).length=32:=q0V _;have hsl2:(shaS (o++shaS m)).length=32:=q0V _;have hg:RLies MTT [((o,i),(x,true))] (0*MTT.size+128) HTT x:=.inl ⟨_,rfl,rfl⟩;refine q0b (Ag _) ?_;refine q3E fi227 ?_;refine uQ 21 _ ?_;with_reducible refine sxE ?_
 refine q2t [0] mixed ?_;refine gQ ?_;refine q0M [0] (q6W (t:=MTT) (xs:=[((o,i),(x,true))]) (j2G m x hx hl) rfl (by simp) (.cons (.ptr hg) .nil)) rfl (by decide) (by repeat first|exact trivial|exact rfl|refine And.intro ?_ ?_) rfl rfl (fun h hh=> ?_) ?_
 · obtain rfl:h=0:=by simpa using hh
   rfl
 simp only [afterR,Out.ren,SV.ren,mgA,sig,SObj.ren,SV.renL,List.set,List.map,Ai,Az,Au];refine gy1 hsl ?_;refine q0M [0] (j0S o i (shaS m) x true ho hsl) rfl (by decide) (by repeat first|exact trivial|exact rfl|refine And.intro ?_ ?_) rfl rfl (fun h hh=> ?_) ?_
 · obtain rfl:h=0:=by simpa using hh
   rfl
 simp only [afterR,Out.ren,SV.ren,mgA,sig,SObj.ren,SV.renL,List.set,List.map,Ai,Az,Au];refine gy1 hsl2 ?_;trivial
def hmS(k b:List UInt8):List UInt8:=shaS (hkS k 92++shaS (hkS k 54++b))
theorem q8b(k b:List UInt8):(hmS k b).length=32:=q0V _
def mWr(k:List UInt8)(ps:List (List UInt8)):Nat→HaD
 |0=>wrS [] hz0 (hkS k 54)
 |i+1=>wrS (hkS k 54++(ps.take i).flatten) (mWr k ps i) (ps.getD i [])
theorem q8i{ps:List (List UInt8)}{i:Nat}(h:i<ps.length):(ps.take (i+1)).flatten=(ps.take i).flatten++ps.getD i []:=by
 rw [List.take_succ_eq_append_getElem h,List.flatten_append,Cu,Ad,Ae h];rfl
theorem z9m(k:List UInt8)(ps:List (List UInt8)):∀i,i≤ps.length→HRep (hkS k 54++(ps.take i).flatten) (mWr k ps i)
 |0,_=>by
  have:=z0z (b:=hkS k 54) z0x;simpa [mWr] using this
 |i+1,hi=>by
  have:=z0z (b:=ps.getD i []) (z9m k ps i (by omega))
  rw [List.append_assoc,←q8i (by omega)] at this
  exact this
theorem q2q:∀ (ps:List (List UInt8)) (i:Nat),(ps.take i).flatten.length≤ps.flatten.length
 | [],i=>by simp
 |p :: ps,0=>by simp
 |p :: ps,i+1=>by simp only [Ci,Aq,Ac];have:=q2q ps i;omega
theorem j2u(k:List UInt8)(ps:List (List UInt8))(hk:k.length≤64)(hp:ps.flatten.length≤1099511627776)(hpl:ps.length≤1099511627776):PC Tryz.prog 196 [.isl .u8 k,.isl (.slice .u8) ps] (.tup [.dat (.arr 32 .u8) (hmS k ps.flatten),rI 0]):=by
 refine q0p rfl rfl ?_;refine q3E fi196 ?_;refine gQ ?_;refine eQ [] (j5s k hk) ?_;refine q0i (ι:=Nat) (fun i=>[(21,rI i)]) (fun i=>[.row .u8 (List.replicate 32 0),.row MH [((hkS k 92,hkS k 54),(mWr k ps i,true))]]) (fun i=>ps.length-i) (fun i=>i≤ps.length) 0 (Ak _) rfl ?_ ?_
 · with_reducible refine sxE ?_;trivial
 intro i hi;have hrep:=z9m k ps i hi;have hwr:=wsx i (by omega)
 have hfl:=q2q ps i;have hil:(hkS k 54).length=64:=q2Z _ _ _;by_cases h:i<ps.length
 · have hf1:=q8i h;have hfl1:=q2q ps (i+1);rw [hf1,Ac] at hfl1;refine gQ ?_;refine ⟨fun _=>⟨⟨by omega,h⟩,?_⟩,fun hh=>absurd h hh⟩
   refine eQ [1] (j0s (hkS k 54++(ps.take i).flatten) (ps.getD i []) (hkS k 92,hkS k 54) _ hrep (by rw [Ac];omega)) ?_
   refine ⟨i+1,h,by dsimp only;omega,rfl,?_⟩
   with_reducible refine sx1 hwr ?_;trivial
 obtain rfl:i=ps.length:=by omega
 rw [AA] at hrep;have hsl:(shaS (hkS k 92++shaS (hkS k 54++ps.flatten))).length=32:=q0V _;refine gQ ?_;refine ⟨fun hh=>absurd hh (by omega),fun _=> ?_⟩
 refine q0P [1] (j5v (hkS k 54++ps.flatten) (hkS k 92) (hkS k 54) _ hrep (by rw [Ac];omega) (q2Z _ _ _)) rfl (by decide) (by repeat first|exact trivial|exact rfl|refine And.intro ?_ ?_) rfl rfl ?_
 simp only [afterO,Out.ren,SV.ren,mgA,sig,SObj.ren,SV.renL,List.set,List.map,Ai,hsl];refine gy1 hsl ?_;rfl
def four(n:Nat):List UInt8:=[UInt8.ofNat (n / 2^ 24%256),UInt8.ofNat (n / 2^ 16%256),UInt8.ofNat (n / 2^ 8%256),UInt8.ofNat (n / 2^ 0%256)]
theorem z0f(n:Nat):(four n).length=4:=rfl
theorem fdivN(n m:Nat)(hm:m≤64):((n:Int).fdiv (2^ min m 64))=((n / 2^ m:Nat):Int):=by
 rw [A5 hm,AV _ (by exact_mod_cast Ak (2^ m))]
 simp
theorem byteN(n m:Nat)(hm:m≤64):UInt8.ofNat (IntKind.u8.wrap ((n:Int).fdiv (2^ min m 64))).toNat=UInt8.ofNat (n / 2^ m%256):=by
 rw [fdivN n m hm];generalize n / 2^ m=m;rw [u8wrapR];congr 1
theorem byteN0(n:Nat):UInt8.ofNat (IntKind.u8.wrap (n:Int)).toNat=UInt8.ofNat (n / 2^ 0%256):=by
 rw [Nat.pow_zero,Nat.div_one,u8wrapR];congr 1
theorem j2m(n:Nat):PC Tryz.prog 261 [rI n] (.isl .u8 (four n)):=by
 refine q0f rfl rfl ?_;refine rQ fi261 ?_;refine ⟨⟨q1G _,q1G _,q1G _,q1G _⟩,?_⟩;rw [byteN _ 24 (by decide),byteN _ 16 (by decide),byteN _ 8 (by decide),byteN0]
 rfl
theorem j4n(n:Nat)(ls:List (List UInt8))(h1:1≤n)(h2:n≤1024)(hl:∀l∈ls,l.length≤4096)(hn:ls.length≤100):PC Tryz.prog 228 [rI n,.isl (.slice .u8) ls] (rB true):=by
 refine q0p rfl rfl ?_;refine rQ fi228 ?_;refine q0i (ι:=Nat) (fun i=>[(9,rI i)]) (fun i=>[]) (fun i=>ls.length-i) (fun i=>i≤ls.length) 0 (Ak _) rfl ?_ ?_
 · with_reducible refine sxE ?_;trivial
 intro i hi;have hwr:=wsx i (by omega)
 by_cases h:i<ls.length
 · have hli:(ls.getD i []).length≤4096:=by
    rw [Ad,Ae h];exact hl _ (B9 _)
   have hli':(4096< (((ls.getD i (Ty.dflt (.slice .u8))).length:Nat):Int))=False:=eq_false (by show ¬(4096< (((ls.getD i []).length:Nat):Int));omega)
   refine gy1 hli' ?_;refine ⟨fun _=>⟨⟨by omega,h⟩,i+1,h,by dsimp only;omega,rfl,?_⟩,fun hh=>absurd h hh⟩
   with_reducible refine sx1 hwr ?_;trivial
 obtain rfl:i=ls.length:=by omega
 refine gQ ?_;exact ⟨fun hh=>absurd hh (by omega),fun _=>⟨fun _=>by omega,fun hh=>absurd hh (by omega)⟩⟩
abbrev derT:Ty:=.prod (.slice .u8) (.prod (.slice .u8) (.prod (.slice .u8) (.int .i64)))
def kblk(key label ctx:List UInt8)(n i:Nat):List UInt8:=hmS key (four i++label++ [0]++ctx++four (8*n))
theorem q5w(key label ctx:List UInt8)(n i:Nat):(kblk key label ctx n i).length=32:=q8b _ _
theorem j0W(key label ctx:List UInt8)(n i:Nat)(hk:key.length≤64)(hl:label.length≤4096)(hc:ctx.length≤4096)(hn:n≤1024)(hi:i≤1000000):PC Tryz.prog 231 [.agg [.isl .u8 key,.isl .u8 label,.isl .u8 ctx,rI n],rI i] (.dat (.arr 32 .u8) (kblk key label ctx n i)):=by
 have hw8:IntKind.i64.wrap (8* (n:Int))=((8*n:Nat):Int):=by rw [wrapi (by omega)];omega
 refine q0p rfl rfl ?_;refine ry1 fi231 hw8 ?_;refine q0q (j2m i) ?_;refine gQ ?_;refine q0q (j2m (8*n)) ?_;refine gQ ?_;have hfl:[four i,label,[UInt8.ofNat 0],ctx,four (8*n)].flatten=four i++label++ [0]++ctx++four (8*n):=by simp
 have hfn:[four i,label,[UInt8.ofNat 0],ctx,four (8*n)].flatten.length≤1099511627776:=by
  rw [hfl];simp only [Ac,z0f,AF,BL];omega
 have hm:=j2u key [four i,label,[UInt8.ofNat 0],ctx,four (8*n)] hk hfn (by simp)
 rw [hfl] at hm;have hkl:=q5w key label ctx n i;change PC _ _ _ (.tup [.dat (.arr 32 .u8) (kblk key label ctx n i),_]) at hm;generalize kblk key label ctx n i=kb at*;refine ⟨by decide,q0q hm ?_⟩
 have htk:List.take 32 kb=kb:=Aa (by omega)
 refine gy2 hkl htk ?_;trivial
theorem z5s(x:derT.den)(hok:derT.ok x):PC Tryz.prog 230 [.fn 231 [.agg (derT.cells x)] []] (.fn 260 [] [.iptr (.clo 231 derT) x 0]):=by
 refine q0p rfl rfl ?_;refine q3E fi230 ?_;refine uQ 3 _ ?_;with_reducible refine sxE ?_
 refine q4g 1 0 (ty:=.clo 231 derT) (x:=x) rfl hok rfl rfl ?_;refine gQ ?_;trivial
def vwK(key label ctx:List UInt8)(n:Nat):Nat→Nat→List SV→List SObj→Prop:=fun i _ args' new=>args'= [rI ((i+1:Nat):Int),.isl .u8 (kblk key label ctx n (i+1))]∧new= []
theorem z2x(key label ctx:List UInt8)(n N:Nat)(hk:key.length≤64)(hl:label.length≤4096)(hc:ctx.length≤4096)(hn:n≤1024)(hN:N≤1000):IterI True Tryz.prog 260 [] [.iptr (.clo 231 derT) (key,label,ctx,(n:Int)) 0] N (vwK key label ctx n):=by
 refine ⟨by kernel_rfl,fun l B J hJ yg hno=> ?_⟩
 refine (q7q (yFG hJ) fi260 ?_).2
 letI:Ghost:=topG (yFG hJ) []
 refine gQ ?_;refine z7V [] (fun i=>i) (fun i=>[(3,rI ((i+1:Nat):Int))]) N (fun _=>True) trivial rfl (by simp) (by simp [SV.bel]) ?_ fun i hi _=> ?_
 · with_reducible refine sxE ?_
   rfl
 by_cases hlt:i<N
 · have hwr:IntKind.i64.wrap (((i+1:Nat):Int)+1)=((i+1+1:Nat):Int):=q1X (by omega)
   refine gQ ?_;refine q0a (j0W key label ctx n (i+1) hk hl hc hn (by omega)) ?_
   have hbl:=q5w key label ctx n (i+1);generalize hb:kblk key label ctx n (i+1)=b at*;refine uQ 8 _ ?_;with_reducible refine sx1 hbl ?_
   refine ⟨⟨by decide,by decide⟩,?_⟩
   refine q0Q 1 rfl rfl (by rw [hbl];decide) ?_ ?_ ?_
   · with_reducible refine sxE ?_;trivial
   · with_reducible refine sxE ?_
     omega
   with_reducible refine sxE ?_
   have htk:List.take 32 (List.drop 0 b)=b:=by rw [As];exact Aa (by omega)
   refine gy1 htk ?_;refine q5q [.dead] hJ yg hlt (fun n=>⟨_,_,⟨by rw [hb,Aa (show b.length≤32 by omega)],rfl⟩,q3m rfl⟩) fun c=> ?_
   cases c
   · refine gQ ?_;exact ⟨_,_,rfl,rfl,by omega⟩
   refine gQ ?_;refine ⟨hlt,trivial,⟨[_],rfl⟩,?_⟩;with_reducible refine sx1 hwr ?_;trivial
 obtain rfl:i=N:=by omega
 exact j1v hJ (hno trivial)
def kacc(key label ctx:List UInt8)(n:Nat):Nat→List UInt8
 |0=>[]
 |i+1=>kacc key label ctx n i++kblk key label ctx n (i+1)
theorem q5x(key label ctx:List UInt8)(n:Nat):∀i,(kacc key label ctx n i).length=32*i
 |0=>rfl
 |i+1=>by rw [kacc,Ac,q5x key label ctx n i,q5w];omega
def kdfS(key label ctx:List UInt8)(n:Nat):List UInt8:=(kacc key label ctx n ((n+31) / 32)).take n
theorem z4J(key label ctx:List UInt8)(n:Nat):(kdfS key label ctx n).length=n:=by
 unfold kdfS;rw [Av,q5x];omega
def frC(n i:Nat)(G:List SObj)(acc:List UInt8):List SObj:=.cells 3 [rI n] :: .cells 29 [.bld (G.length+2) .u8 (32*i)] :: (G++ [.row .u8 acc])
def frH(key label ctx:List UInt8)(n:Nat)(i:Nat)(H':List SObj):Prop:=i< (n+31) / 32∧∃G,(∃g,G=List.replicate g SObj.dead)∧H'=frC n i G (kacc key label ctx n i)
def frX(key label ctx:List UInt8)(n:Nat)(i:Nat)(ex:Ex)(H':List SObj):Prop:=ex= .exit 0∧i+1=(n+31) / 32∧∃G,(∃g,G=List.replicate g SObj.dead)∧H'=frC n (i+1) G (kacc key label ctx n (i+1))
theorem q8d{h:Nat}{t:Ty}{xs:List t.den}{l:List SObj}:∀g,frzObH h t xs l→frzObH h t xs (List.replicate g SObj.dead++l)
 |0,hl=>hl
 |g+1,hl=>⟨trivial,q8d g hl⟩
theorem j3f(key label ctx:List UInt8)(n:Nat)(hk:key.length≤64)(hl:label.length≤4096)(hc:ctx.length≤4096)(h1:1≤n)(hn:n≤1024):PC Tryz.prog 229 [rI n,.fn 260 [] [.iptr (.clo 231 derT) (key,label,ctx,(n:Int)) 0]] (.isl .u8 (kdfS key label ctx n)):=by
 refine q0p rfl rfl (z3v (q7q noFG fi229 ?_))
 letI:Ghost:=topG noFG []
 refine gQ ?_;refine q1E 1 0 .u8 rfl rfl rfl ?_;have hN:(n+31) / 32≤1000:=by omega
 refine j1S (inf:=True) (frH key label ctx n) (frX key label ctx n) rfl rfl rfl (z2x key label ctx n ((n+31) / 32) hk hl hc hn hN) (fun _ Hn h=>absurd h.1 (CB _)) (fun i n args' new h=>by rw [h.1];rfl) ⟨by omega,[],⟨0,rfl⟩,rfl⟩ rfl ?_ ?_ ?_
 · rintro i _ args' new hi ⟨hlt,G,⟨g,hg⟩,rfl⟩ ⟨rfl,rfl⟩ L1 L2
   letI:Ghost:=pinG noFG L1
   rw [Ai];have hal:=q5x key label ctx n i;have hbl:=q5w key label ctx n (i+1);have hac:kacc key label ctx n i++kblk key label ctx n (i+1)=kacc key label ctx n (i+1):=rfl;generalize hka:kacc key label ctx n i=a at*;generalize hkb:kblk key label ctx n (i+1)=b at*;unfold frC;refine uQ 600 _ ?_;simp only [putL,CJ];with_reducible refine sxaE ?_
   letI:Ghost:=pinG noFG L2
   refine gya2 hal hbl ?_;refine ⟨⟨by omega,by omega⟩,fun h=>⟨rfl,by omega,G++ [.dead],⟨g+1,by rw [hg,BT]⟩,?_⟩,fun h=>⟨by omega,G++ [.dead],⟨g+1,by rw [hg,BT]⟩,?_⟩⟩
   · rw [←hac];simp [frC,CT]
   rw [←hac];simp [frC,CT]
 · rintro D _ ⟨h,_⟩;exact absurd h (CB _)
 rintro D i ex _ hi ⟨rfl,hiN,G,⟨g,hg⟩,rfl⟩;refine ⟨_,rfl,?_⟩;unfold frC
 letI:Ghost:=topG noFG [D]
 have hal:=q5x key label ctx n (i+1);have hke:List.take n (kacc key label ctx n (i+1))=kdfS key label ctx n:=by rw [hiN];rfl
 generalize kacc key label ctx n (i+1)=a at*;refine uQ 5 _ ?_;with_reducible refine sxaE ?_
 refine ⟨⟨by omega,by omega⟩,?_⟩
 refine q0Q (G.length+2) (ty:=.u8) (xs:=a) rfl (by simp) (by omega) ?_ ?_ ?_
 · with_reducible refine sxaE ?_
   refine ⟨by omega,?_⟩
   rw [hg];exact q8d g ⟨trivial,trivial⟩
 · with_reducible refine sxaE ?_
   exact ⟨by omega,by omega⟩
 with_reducible refine sxaE ?_
 rw [C5,hke];have hkl:(kdfS key label ctx n).length=n:=z4J _ _ _ _;refine aQ ?_;refine q0a (z0K (kdfS key label ctx n) (by omega)) ?_
 refine aQ ?_;trivial
theorem j6D(key label ctx:List UInt8)(n:Nat)(hk:key.length≤64)(hl:label.length≤4096)(hc:ctx.length≤4096)(h1:1≤n)(hn:n≤1024):PC Tryz.prog 198 [.isl .u8 key,.isl .u8 label,.isl .u8 ctx,rI n] (.tup [.isl .u8 (kdfS key label ctx n),rI 0]):=by
 have hal:=j4n n [key,label,ctx] h1 hn (fun l hl'=>by simp at hl';rcases hl' with rfl|rfl|rfl<;>omega) (by simp)
 refine q0p rfl rfl ?_;refine rQ fi198 ?_;refine q0m 0 ?_;with_reducible refine sxE ?_
 refine cQ hal ?_;refine cQ (z5s (key,label,ctx,(n:Int)) ⟨⟨show key.length≤1125899906842624 by omega,fun _ _=>trivial⟩,⟨show label.length≤1125899906842624 by omega,fun _ _=>trivial⟩,⟨show ctx.length≤1125899906842624 by omega,fun _ _=>trivial⟩,trivial⟩) ?_
 refine cQ (j3f key label ctx n hk hl hc h1 hn) ?_;trivial
theorem j6p(n:Nat):PC Tryz.prog 199 [rI n] (.isl .u8 (four n)):=by
 refine q0f rfl rfl ?_;refine rQ fi199 ?_;refine ⟨⟨q1G _,q1G _,q1G _,q1G _⟩,?_⟩;rw [byteN _ 24 (by decide),byteN _ 16 (by decide),byteN _ 8 (by decide),byteN0]
 rfl
theorem j2h(ls:List (List UInt8))(hl:ls.flatten.length≤1099511627776)(hn:ls.length≤1099511627776):PC Tryz.prog 148 [.isl (.slice .u8) ls] (.isl .u8 ls.flatten):=by
 refine q0f rfl rfl ?_;refine rQ fi148 ?_;refine q2x 3 .u8 (fun i=>(ls.take i).flatten) (fun i=>[(8,rI i)]) ls.length (fun _=>True) rfl (by simp) (by simp) rfl (fun i=>rfl) ?_ fun i hi _=> ?_
 · with_reducible refine sxE ?_;trivial
 have hwr:=wsx i (by omega)
 have hfl:=q2q ls i;by_cases h:i<ls.length
 · have hf1:=q8i h;have hfl1:=q2q ls (i+1);rw [hf1,Ac] at hfl1;have hfl2:(ls.take i).flatten.length+ (ls.getD i (Ty.dflt (.slice .u8))).length≤ls.flatten.length:=hfl1;refine gQ ?_;refine ⟨fun _=>⟨⟨by omega,h⟩,⟨by omega,by omega⟩,q1z [.dead] [] h trivial (by rw [hf1];rfl) ?_⟩,fun hh=>absurd h hh⟩
   with_reducible refine sx3 hwr hf1 ?_
   rfl
 obtain rfl:i=ls.length:=by omega
 rw [AA] at*;refine gQ ?_;refine ⟨fun hh=>absurd hh (by omega),fun _=> ?_⟩
 exact ⟨⟨by omega,by omega⟩,AA⟩
theorem j0R(k:List UInt8)(ps:List (List UInt8))(hk:k.length≤64)(hp:ps.flatten.length≤1099511627776)(hpl:ps.length≤1099511627776):PC Tryz.prog 146 [.isl .u8 k,.isl (.slice .u8) ps] (.isl .u8 (hmS k ps.flatten)):=by
 have hsl:=q8b k ps.flatten;refine q0f rfl rfl ?_;refine rQ fi146 ?_;refine cy1 (j2u k ps hk hp hpl) hsl ?_;exact ⟨⟨by decide,by decide⟩,Aa (by omega)⟩
def dkS(k:KeyT.den)(u use:Nat):List UInt8:=kdfS k.2.2 (four u++ [UInt8.ofNat use]) [] k.2.2.length
theorem z9z(k:KeyT.den)(u use:Nat):(dkS k u use).length=k.2.2.length:=z4J _ _ _ _
theorem z9x(k:KeyT.den)(u:Nat)(hk:k.2.2.length≤64):PC Tryz.prog 147 [.agg (KeyT.cells k),rI u] (.fn 197 [] [.iptr KeyT k 0,.iptr (.int .i64) (u:Int) 0]):=by
 refine q0p rfl rfl ?_;refine q3E fi147 ?_;refine uQ 4 _ ?_;with_reducible refine sxE ?_
 refine q4g 2 0 (ty:=KeyT) (x:=k) rfl ⟨trivial,trivial,⟨by omega,fun _ _=>trivial⟩⟩ rfl rfl ?_
 refine q4g 3 1 (ty:=.int .i64) (x:=(u:Int)) rfl trivial rfl rfl ?_;refine gQ ?_;trivial
theorem z8G(k:KeyT.den)(u use:Nat)(hk:k.2.2.length≤64)(h1:1≤k.2.2.length)(hu:use<256):PC Tryz.prog 197 [.raw (.int .u8 use),.iptr KeyT k 0,.iptr (.int .i64) (u:Int) 0] (.isl .u8 (dkS k u use)):=by
 obtain ⟨p,v,b⟩:=k;have hbl:b.length≤64:=hk;have hb1:1≤b.length:=h1;refine q0p rfl rfl ?_;refine rQ fi197 ?_;refine q0q (j6p u) ?_;refine gQ ?_;have hj:=j2h [four u,[UInt8.ofNat use]] (by simp [four]) (by simp)
 rw [show [four u,[UInt8.ofNat use]].flatten=four u++ [UInt8.ofNat use] by simp] at hj
 refine ⟨by rw [BY];omega,?_⟩
 refine q0A 0 (by decide) ?_
 with_reducible refine sxE ?_
 refine cR hj ?_;refine q0d ((j6D b (four u++ [UInt8.ofNat use]) [] b.length hbl (by simp [four]) (by simp) hb1 (by omega)).arg ?_) ?_
 · with_reducible refine sxE ?_;trivial
 refine gQ ?_;rfl
def uOk(k:Key)(u:Int):Bool:=vKey k&& (decide (1≤u) && decide (u≤1023))
theorem j1a(k:Key)(u:Int)(ho:KeyT.ok k):PC Tryz.prog 145 [.agg (KeyT.cells k),rI u] (.tup [.agg (rawL (if uOk k u=true then kindOf k.1 else kindZ)),rI (if uOk k u=true then 0 else 2)]):=by
 have hf:=j2z k;obtain ⟨p,v,b⟩:=k;refine q0p rfl (by simp [SV.clean,SV.cleanL,q4T]) ?_
 change PC _ _ _ (.tup [.agg (rawL (kindOf p)),rB (vKey (p,v,b))]) at hf;unfold uOk;show VC _ _ _ _ (PK (.tup [.agg (rawL (if (vKey (p,v,b) && (decide (1≤u) && decide (u≤1023)))=true then kindOf p else kindZ)),_]));generalize vKey (p,v,b)=vb at*;have h3:=q6D p;generalize kindOf p=kv at*;rcases h3 with rfl|rfl|rfl
 all_goals
  cases vb
  · refine rQ fi145 ?_;refine cQ hf ?_;trivial
  by_cases h1:1≤u
  · have h1':(u<1)=False:=eq_false (by omega)
    by_cases h2:u≤1023
    · have h2':(1023<u)=False:=eq_false (by omega)
      refine rQ fi145 ?_;refine cy4 hf h1 h2 h1' h2' ?_;trivial
    have h2':(1023<u)=True:=eq_true (by omega)
    refine rQ fi145 ?_;refine cy4 hf h1 h2 h1' h2' ?_;trivial
  have h1':(u<1)=True:=eq_true (by omega)
  refine rQ fi145 ?_;refine q0a hf ?_;refine gy2 h1 h1' ?_;trivial
theorem or8(a b:UInt8):orK .u8 (a.toNat:Int) (b.toNat:Int)=((a|||b).toNat:Int):=by
 unfold orK;have ha:=a.toNat_lt;have hb:=b.toNat_lt;have hx:a.toNat|||b.toNat<2^ 8:=Nat.or_lt_two_pow ha hb
 have e:(BitVec.ofInt IntKind.u8.bits (a.toNat:Int) |||BitVec.ofInt IntKind.u8.bits (b.toNat:Int)).toNat=a.toNat|||b.toNat:=by
  rw [Cl,AK,AK,AX,AX];rw [show 2^ IntKind.u8.bits=256 from rfl,AI ha,AI hb]
 rw [e,u8wrapR,UInt8.toNat_or];omega
def dfS(a b:List UInt8):Nat→UInt8
 |0=>0
 |i+1=>dfS a b i||| (a.getD i 0^^^ b.getD i 0)
theorem j1D{a b:UInt8}:a|||b=0 ↔ a=0∧b=0:=by
 constructor
 · intro h;have h1:(a|||b).toNat=0:=by rw [h];rfl
   rw [UInt8.toNat_or] at h1;have ha:= @Nat.left_le_or a.toNat b.toNat;have hb:= @Nat.right_le_or a.toNat b.toNat;exact ⟨B2.1 (by show a.toNat=0;omega),B2.1 (by show b.toNat=0;omega)⟩
 rintro ⟨rfl,rfl⟩;rfl
theorem z8T{a b:UInt8}:a^^^ b=0 ↔ a=b:=UInt8.xor_eq_zero_iff
theorem z5a(a b:List UInt8):∀i,dfS a b i=0 ↔ ∀j,j<i→a.getD j 0=b.getD j 0
 |0=>by simp [dfS]
 |i+1=>by
  rw [dfS,j1D,z5a a b i,z8T];constructor
  · rintro ⟨h1,h2⟩ j hj;by_cases e:j=i
    · subst e;exact h2
    exact h1 j (by omega)
  intro h;exact ⟨fun j hj=>h j (by omega),h i (by omega)⟩
theorem j6t{a b:List UInt8}(h:a.length=b.length):dfS a b a.length=0 ↔ a=b:=by
 rw [z5a];constructor
 · intro h1;apply AO h;intro j h2 h3;have:=h1 j h2;rw [Ad,Ad,Ae h2,Ae h3] at this;exact this
 rintro rfl j _;rfl
theorem j4T(a b:List UInt8)(ha:a.length≤1099511627776)(hb:b.length≤1099511627776):PC Tryz.prog 216 [.isl .u8 a,.isl .u8 b] (rB (decide (a=b))):=by
 refine q0p rfl rfl ?_;by_cases hl:a.length=b.length
 · have hl':((a.length:Int)=(b.length:Int))=True:=eq_true (by omega)
   refine ry1 fi216 hl' ?_;refine q0i (ι:=Nat) (fun i=>[(14,rI i),(5,.raw (.int .u8 (dfS a b i).toNat))]) (fun i=>[]) (fun i=>a.length-i) (fun i=>i≤a.length) 0 (Ak _) rfl ?_ ?_
   · with_reducible refine sxE ?_
     rfl
   intro i hi;have hwr:=wsx i (by omega)
   by_cases h:i<a.length
   · have hx:=xor8 (a.getD i 0) (b.getD i 0);have ho:=or8 (dfS a b i) (a.getD i 0^^^ b.getD i 0);refine gyd3 hx ho Ab ?_;refine ⟨fun _=>⟨⟨by omega,by omega⟩,⟨by omega,by omega⟩,i+1,h,by dsimp only;omega,rfl,?_⟩,fun hh=>absurd h hh⟩
     with_reducible refine sx1 hwr ?_
     rfl
   obtain rfl:i=a.length:=by omega
   refine gQ ?_;refine ⟨fun hh=>absurd hh (by omega),fun _=> ?_⟩
   rw [decide_eq_decide,←j6t hl,←B2];exact Int.natCast_eq_zero
 have hl':((a.length:Int)=(b.length:Int))=False:=eq_false (by omega)
 refine ry1 fi216 hl' ?_;exact (decide_eq_false (fun e=>hl (by rw [e]))).symm
theorem j0a(a b:List UInt8)(ha:a.length≤1099511627776)(hb:b.length≤1099511627776):PC Tryz.prog 168 [.isl .u8 a,.isl .u8 b] (rB (decide (a=b))):=by
 refine q0p rfl rfl ?_;refine rQ fi168 ?_;refine cQ (j4T a b ha hb) ?_;trivial
def kdL(nm:ByteArray)(kl tl:Nat)(fe fd fm:FuncId):List Value:=[.string nm,.int .i64 kl,.int .i64 16,.int .i64 tl,.int .i64 tl,fnV fe,fnV fd,fnV fm]
def smS(k:Key)(u:Nat)(b:List UInt8):List UInt8:=(hmS (dkS k u 153) b).take k.2.2.length
theorem q4W(k:Key)(u:Nat)(b:List UInt8)(h:k.2.2.length≤32):(smS k u b).length=k.2.2.length:=by
 unfold smS;rw [Av,q8b];omega
theorem z1g(nm:ByteArray)(tl:Nat)(fe fd fm:FuncId)(p v:Int)(b:List UInt8)(u:Nat)(x:List UInt8)(hu:PC Tryz.prog 145 [.agg (KeyT.cells (p,v,b)),rI u] (.tup [.agg (rawL (kdL nm tl tl fe fd fm)),rI 0]))
 (ht:tl=b.length)(hb1:1≤b.length)(hb2:b.length≤32)(hx:x.length≤1048576):PC Tryz.prog 88 [.agg (KeyT.cells (p,v,b)),rI u,.isl .u8 x] (.tup [.isl .u8 (smS (p,v,b) u x),rI 0]):=by
 unfold kdL at hu;have hkl:=z9z (p,v,b) u 153;have hb3:b.length≤64:=by omega
 have hd1:=z8G (p,v,b) u 153 hb3 hb1 (by decide)
 have hE:smS (p,v,b) u x=(hmS (dkS (p,v,b) u 153) x).take tl:=by rw [ht];rfl
 rw [hE];change _=b.length at hkl;generalize dkS (p,v,b) u 153=dk at*;have hk:=j0R dk [x] (by omega) (by simp;omega) (by simp)
 rw [Cu] at hk;have hhl:=q8b dk x;generalize hmS dk x=hm at*;have hj:=j2h [hm.take tl] (by simp;omega) (by simp)
 rw [Cu] at hj;refine q0f rfl rfl ?_;refine rQ fi88 ?_;refine cQ hu ?_;refine cQ (z9x (p,v,b) u hb3) ?_;refine cQ hd1 ?_;refine q0m 2 ?_;with_reducible refine sxE ?_
 refine cy1 hk Bf ?_;refine ⟨⟨by omega,Ag _,by omega⟩,?_⟩
 refine q0m 3 ?_;with_reducible refine sxE ?_
 refine cQ hj ?_;trivial
theorem q5j{k:Key}{u:Nat}(h:uOk k u=true):vKey k=true∧u≤1023∧((k.2.2.length:Nat):Int)=keyLen k.1∧k.2.2.length≤32∧(k.1=1→k.2.2.length=16)∧(k.1≠1→k.1=2∧k.2.2.length=32):=by
 unfold uOk at h;simp only [Aj,decide_eq_true_eq] at h;have hv:=h.1;unfold vKey at hv;simp only [Aj,decide_eq_true_eq] at hv;have h1:=hv.2.1;have h2:=hv.1;refine ⟨h.1,by omega,h1,?_⟩
 unfold keyLen at h1 h2
 grind
theorem j2e(k:Key)(u:Nat)(x:List UInt8)(ho:KeyT.ok k)(hu:uOk k u=true)(hx:x.length≤1048576):PC Tryz.prog 88 [.agg (KeyT.cells k),rI u,.isl .u8 x] (.tup [.isl .u8 (smS k u x),rI 0]):=by
 have hus:=j1a k u ho;rw [if_pos hu,if_pos hu] at hus;obtain ⟨_,_,_,_,h1,h2⟩:=q5j hu;obtain ⟨p,v,b⟩:=k;dsimp only at h1 h2;by_cases hp:p=1
 · subst hp;have:=h1 rfl;exact z1g name1 16 _ _ _ 1 v b u x hus (by omega) (by omega) (by omega) hx
 obtain ⟨rfl,hl⟩:=h2 hp;exact z1g name2 32 _ _ _ 2 v b u x hus (by omega) (by omega) (by omega) hx
theorem z9j(k:Key)(u:Nat)(x s:List UInt8)(ho:KeyT.ok k)(hu:uOk k u=true)(hx:x.length≤1048576)(hs:s.length≤1099511627776):PC Tryz.prog 114 [.agg (KeyT.cells k),rI u,.isl .u8 x,.isl .u8 s] (rI (if smS k u x=s then 0 else 10)):=by
 have h:=j2e k u x ho hu hx;obtain ⟨_,_,_,hl,_⟩:=q5j hu;have hm:=j0a (smS k u x) s (by rw [q4W k u x hl];omega) hs
 generalize smS k u x=w at*;obtain ⟨p,v,b⟩:=k;refine q0p rfl rfl ?_;refine rQ fi114 ?_;refine cQ h ?_;refine q0a hm ?_;by_cases e:w=s
 · rw [if_pos e,decide_eq_true e];refine gQ ?_;trivial
 rw [if_neg e,decide_eq_false e];refine gQ ?_;trivial
set_option maxHeartbeats 4000000
theorem z4w{v:Int}(h:0≤v∧v≤4611686018427387904):intS v≠ []:=by
 obtain ⟨c1,e1,_⟩:=q6F h;rw [e1];exact q2r
theorem q6v{k:Key}(h:vKey k=true):keyOk k:=by
 obtain ⟨a,v,c⟩:=k;simp only [vKey,keyLen,Aj,decide_eq_true_eq] at h;change Int at a v;obtain ⟨h1,h2,h3,h4⟩:=h;refine ⟨?_,⟨h3,Cv (show v≤(65535:Int) from h4) (by decide)⟩,?_⟩
 · split at h1
   · rename_i e;rw [e];decide
   split at h1
   · rename_i e;rw [e];decide
   exact absurd rfl h1
 split at h2
 · omega
 split at h2
 · omega
 omega
def pacL(p:Pac):List (List UInt8):=[prinE p.1,timeS p.2.1,intS p.2.2.1,listS (t:=I64) intS p.2.2.2.1,listS (t:=PrinT) prinE p.2.2.2.2]
theorem z7m{v:Int}(h:vNum v=true):0≤v∧v≤2147483647:=by
 simpa only [vNum,mIn,Aj,decide_eq_true_eq] using h
theorem j2k{l:List Int}(h:allN l.length (grpAt l)=true):∀x∈l,0≤x∧x≤2147483647:=fun x hx=>by
 obtain ⟨j,hj,rfl⟩:=AH hx;have h1:=q1v.1 h j hj;unfold grpAt at h1;rw [q3t hj] at h1;simp only [Aj] at h1;exact z7m h1.1
theorem j5u{l:List Int}(hl:l.length≤64)(hv:∀x∈l,0≤x∧x≤2147483647):(if listS (t:=I64) intS l= [] then l= [] else grpsP (listS (t:=I64) intS l)= .ok (l,(listS (t:=I64) intS l).length))∧(listS (t:=I64) intS l).length≤1000:=by
 have hi:∀x∈l,(0:Int)≤x∧x≤4611686018427387904:=fun x hx=>⟨(hv x hx).1,Cv (hv x hx).2 (by decide)⟩
 have hf:=flat_len intS 14 l fun x _=>q1a x;have h4:14*l.length≤14*64:=Bd _ hl;refine ⟨z8q (t:=I64) (p:=intP) (w:=intS) hl (fun x hx=>⟨z4w (hi x hx),q9z (hi x hx)⟩) (by omega),?_⟩
 have:=z4f (t:=I64) (w:=intS) (l:=l) 14 fun x _=>q1a x;exact Am this (by omega)
theorem z4y(p:Pac)(h:vPac p=true):pacS p=tlv 48 (sufS (pacL p) 0 5)∧(∀j,((pacL p).getD j []).length≤16777215)∧(sufS (pacL p) 0 5).length≤10000∧∀r,pacP (pacS p++r)= .ok (p,(pacS p).length):=by
 obtain ⟨c,a,u,g,w⟩:=p;simp only [vPac,Aj,decide_eq_true_eq,A3] at h;obtain ⟨hc,ha,hu,hg1,hw1,hg,hw⟩:=h;change Int at a u;change List Int at g;change List Prin at w;have hg1:(g.length:Int)≤64:=hg1;have hw1:(w.length:Int)≤16:=hw1;obtain ⟨ps,psl,psn⟩:=q4m hc;obtain ⟨a,rfl,ga⟩:=j2d (show (0:Int)≤a∧a≤1099511627776 by simpa only [vTime,mIn,Aj,decide_eq_true_eq] using ha)
 have hu2:=z7m hu;have zn:(0:Int)≤u∧u≤4611686018427387904:=⟨hu2.1,Cv hu2.2 (by decide)⟩
 obtain ⟨gq,gl⟩:=j5u (l:=g) (by omega) (j2k hg)
 obtain ⟨wq,wl⟩:=j6N (l:=w) (by omega) hw
 have a1:timeS (a:Int)≠ []:=by rw [q5u (by omega)];exact q2r
 have a2:timeP (timeS (a:Int))= .ok (a,(timeS (a:Int)).length):=full (j0c ga);have a3:(timeS (a:Int)).length≤11:=by rw [q5u (by omega),q1p,q0F];decide
 have l2:=q1a u;have hL:∀j,((pacL (c,(a:Int),u,g,w)).getD j []).length≤16777215:=fun j=>by
  match j with
  |0=>exact Am psl (by omega)
  |1=>show (timeS (a:Int)).length≤_;omega
  |2=>show (intS u).length≤_;omega
  |3=>exact Am gl (by omega)
  |4=>exact Am wl (by omega)
  |j+5=>exact Ak _
 have hs:(sufS (pacL (c,(a:Int),u,g,w)) 0 5).length≤10000:=by
  refine Am (z0n 5 0) ?_;show (prinE c).length+5+ ((timeS (a:Int)).length+5+ ((intS u).length+5+ ((listS (t:=I64) intS g).length+5+ ((listS (t:=PrinT) prinE w).length+5+0))))≤_;generalize (listS (t:=I64) intS g).length=x1 at*;generalize (listS (t:=PrinT) prinE w).length=x2 at*;generalize (prinE c).length=x3 at*;omega
 have hT:pacS (c,(a:Int),u,g,w)=tlv 48 (sufS (pacL (c,(a:Int),u,g,w)) 0 5):=by
  have h1:=z3I (l:=pacL (c,(a:Int),u,g,w)) (Am hs (by omega))
  exact (show pacS (c,(a:Int),u,g,w)=tagS (pacL (c,(a:Int),u,g,w)) from rfl).trans h1
 have hin:pacIn (sufS (pacL (c,(a:Int),u,g,w)) 0 5)= .ok ((c,(a:Int),u,g,w),(sufS (pacL (c,(a:Int),u,g,w)) 0 5).length):=by
  unfold pacIn;refine q2T (n:=0) (k:=4) (q1V hL (by omega) psn (full ps)) ?_
  refine q2T (n:=1) (k:=3) (q1V hL (by omega) a1 a2) ?_
  refine q2T (n:=2) (k:=2) (q1V hL (by omega) (z4w zn) (full (q9z zn))) ?_
  refine q2T (n:=3) (k:=1) (z5c hL (by omega) gq) ?_
  refine q2T (n:=4) (k:=0) (z5c hL (by omega) wq) ?_
  rfl
 refine ⟨hT,hL,hs,fun r=> ?_⟩;rw [hT];exact q4O (by omega) hin r
theorem z0G{p:Pac}(h:vPac p=true):(pacS p).length≤10010∧pacS p≠ []:=by
 obtain ⟨h1,_,h3,_⟩:=z4y p h;rw [h1];refine ⟨?_,q2r⟩;rw [q1p];have:=q6T (sufS (pacL p) 0 5).length;omega
theorem z4x{p:Pac}(h:vPac p=true):decPc (pacS p)=some p:=by
 have hx:=full (z4y p h).2.2.2;unfold decPc allP;rw [hx];simp [h]
theorem q6x{b:List UInt8}{p:Pac}(h:decPc b=some p):vPac p=true∧pacS p=b:=by
 unfold decPc at h;split at h
 · split at h
   · rename_i h2;cases h;exact h2
   cases h
 cases h
def sgnL(x:Sgd):List (List UInt8):=[pacS x.1,keyS x.2.1,keyS x.2.2]
theorem j2f(x:Sgd)(h:vSgn x=true):sgnS x=tlv 48 (sufS (sgnL x) 0 3)∧(∀j,((sgnL x).getD j []).length≤16777215)∧(sufS (sgnL x) 0 3).length≤200000∧∀r,sgP (sgnS x++r)= .ok (x,(sgnS x).length):=by
 obtain ⟨p,k1,k2⟩:=x;simp only [vSgn,Aj] at h;obtain ⟨h0,h1,h2⟩:=h;obtain ⟨pl,pn⟩:=z0G h0;have pp:=full (z4y p h0).2.2.2;have o1:=q6v h1;have o2:=q6v h2;have l1:=z6u o1;have l2:=z6u o2;have hL:∀j,((sgnL (p,k1,k2)).getD j []).length≤16777215:=fun j=>by
  match j with
  |0=>exact Am pl (by omega)
  |1=>exact Am l1 (by omega)
  |2=>exact Am l2 (by omega)
  |j+3=>exact Ak _
 have hs:(sufS (sgnL (p,k1,k2)) 0 3).length≤200000:=by
  refine Am (z0n 3 0) ?_;show (pacS p).length+5+ ((keyS k1).length+5+ ((keyS k2).length+5+0))≤_;generalize (pacS p).length=x1 at*;generalize (keyS k1).length=x2 at*;generalize (keyS k2).length=x3 at*;omega
 have hT:sgnS (p,k1,k2)=tlv 48 (sufS (sgnL (p,k1,k2)) 0 3):=by
  have h1:=z3I (l:=sgnL (p,k1,k2)) (Am hs (by omega))
  exact (show sgnS (p,k1,k2)=tagS (sgnL (p,k1,k2)) from rfl).trans h1
 have hin:sgIn (sufS (sgnL (p,k1,k2)) 0 3)= .ok ((p,k1,k2),(sufS (sgnL (p,k1,k2)) 0 3).length):=by
  unfold sgIn;refine q2T (n:=0) (k:=2) (q1V hL (by omega) pn pp) ?_
  refine q2T (n:=1) (k:=1) (q1V hL (by omega) (z6S o1) (full (z6j o1))) ?_
  refine q2T (n:=2) (k:=0) (q1V hL (by omega) (z6S o2) (full (z6j o2))) ?_
  rfl
 refine ⟨hT,hL,hs,fun r=> ?_⟩;rw [hT];exact q4O (by omega) hin r
theorem z0o{x:Sgd}(h:vSgn x=true):decSg (sgnS x)=some x:=by
 have hx:=full (j2f x h).2.2.2;unfold decSg allP;rw [hx];simp [h]
theorem q8Z{b:List UInt8}{x:Sgd}(h:decSg b=some x):vSgn x=true∧sgnS x=b:=by
 unfold decSg at h;split at h
 · split at h
   · rename_i h2;cases h;exact h2
   cases h
 cases h
set_option maxHeartbeats 40000000
theorem j2i(k:Key)(u:Nat)(x:List UInt8)(ho:KeyT.ok k)(hu:uOk k u=true)(hx:x.length≤1048576):PC Tryz.prog 44 [.agg (KeyT.cells k),rI u,.isl .u8 x] (.agg [rI k.1,rI k.2.1,.isl .u8 (smS k u x)]):=by
 have h:=j2e k u x ho hu hx;generalize smS k u x=w at*;obtain ⟨p,v,b⟩:=k;refine q0p rfl rfl ?_;refine rQ fi44 ?_;refine cQ h ?_;trivial
def noK(k:Key):Bool:=decide (k.1=0) && (decide (k.2.1=0) && decide (k.2.2.length=0))
theorem z2P(k:Key):PC Tryz.prog 50 [.agg (KeyT.cells k)] (rB (noK k)):=by
 obtain ⟨p,v,b⟩:=k;refine q0p rfl rfl ?_;refine rQ fi50 ?_
 grind [noK]
def fitK(k s:Key):Bool:=decide (s.1=k.1) && (decide (s.2.1=k.2.1) || (decide (s.2.1=0) ||decide (k.2.1=0)))
def rightB(k:Key)(u:Nat)(x:List UInt8)(s:Key):Bool:=noK k|| (fitK k s&& decide (smS k u x=s.2.2))
theorem z4X(k:Key)(u:Nat)(x:List UInt8)(s:Key)(ho:KeyT.ok k)(hu:noK k=false→uOk k u=true)(hx:x.length≤1048576)(hs:s.2.2.length≤1099511627776):PC Tryz.prog 55 [.agg (KeyT.cells k),rI u,.isl .u8 x,.agg (KeyT.cells s)] (rB (rightB k u x s)):=by
 have hn:=z2P k;unfold rightB;cases hk:noK k with
 |true=>
  rw [hk] at hn;obtain ⟨p,v,b⟩:=k;refine q0p rfl rfl ?_;refine rQ fi55 ?_;refine cQ hn ?_;trivial
 |false=>
  rw [hk] at hn;have hv:=z9j k u x s.2.2 ho (hu hk) hx hs;generalize smS k u x=w at*;clear hu hk ho;obtain ⟨p,v,b⟩:=k;obtain ⟨sp,sv,sb⟩:=s;dsimp only at hv hs;have hve:(if w=sb then (0:Int) else 10)=0 ↔ w=sb:=by split<;>simp_all
  generalize (if w=sb then (0:Int) else 10)=z at*;unfold fitK;refine q0p rfl rfl ?_;refine rQ fi55 ?_;refine cQ hn ?_<;>try with_reducible exact True.intro
  repeat' (first
   | (refine q0a (hv) ?_;refine uQ 600 _ ?_;simp (maxSteps:=3000000) only [go_sem,↓zA,↓reduceIte,↓reduceDIte] <;>try simp only [zB])
   | (refine q0d (hv) ?_;refine uQ 600 _ ?_;simp (maxSteps:=3000000) only [go_sem,↓zA,↓reduceIte,↓reduceDIte] <;>try simp only [zB])
   | (refine q0q (hv) ?_;refine uQ 600 _ ?_;simp (maxSteps:=3000000) only [go_sem,↓zA,↓reduceIte,↓reduceDIte] <;>try simp only [zB])
   | (with_reducible refine And.intro ?_ ?_)
   | (with_reducible intro _))
  all_goals (grind)
theorem q9g{k:Key}{u:Int}(h:vKey k=true)(hu:1≤u∧u≤1023):uOk k u=true:=by
 unfold uOk;simp [h,hu.1,hu.2]
theorem q1M{k:Key}(h:vKey k=true):k.2.2.length≤32∧((k.2.2.length:Nat):Int)=keyLen k.1:=by
 have:=q5j (u:=1) (q9g h (by decide))
 exact ⟨this.2.2.2.1,this.2.2.1⟩
def sigK(k:Key)(u:Nat)(x:List UInt8):Key:=(k.1,k.2.1,smS k u x)
theorem z5l{k:Key}(u:Nat)(x:List UInt8)(h:vKey k=true):vKey (sigK k u x)=true:=by
 have hl:=q1M h;have hs:=q4W k u x hl.1;unfold vKey at*;simp only [Aj,decide_eq_true_eq] at*;refine ⟨h.1,?_,h.2.2⟩;show ((smS k u x).length:Int)=keyLen k.1;rw [hs];exact hl.2
theorem z8J{k:Key}(u:Nat)(x:List UInt8)(h:vKey k=true):KeyT.ok (sigK k u x):=by
 have hl:=q1M h;have hs:=q4W k u x hl.1;exact ⟨trivial,trivial,⟨show (smS k u x).length≤1125899906842624 by omega,fun _ _=>trivial⟩⟩
def signX(p:Pac)(s r:Key):Sgd:=(p,sigK s 17 (pacS p),sigK r 18 (smS s 17 (pacS p)))
theorem z3z{p:Pac}{s r:Key}(h:vPac p=true)(hs:vKey s=true)(hr:vKey r=true):vSgn (signX p s r)=true:=by
 unfold vSgn;rw [show (signX p s r).1=p from rfl,show (signX p s r).2.1=sigK s 17 (pacS p) from rfl,show (signX p s r).2.2=sigK r 18 (smS s 17 (pacS p)) from rfl,h,z5l _ _ hs,z5l _ _ hr]
 rfl
def signS(p:Pac)(s r:Key):List UInt8×Int:=if vPac p&& (vKey s&& vKey r) then (if 4096< (sgnS (signX p s r)).length then ([],5) else (sgnS (signX p s r),0)) else ([],2)
theorem q8v(p:Pac)(s r:Key)(ho:PacT.ok p)(hs:KeyT.ok s)(hr:KeyT.ok r):PC Tryz.prog 13 [.agg (PacT.cells p),.agg (KeyT.cells s),.agg (KeyT.cells r)] (.tup [.isl .u8 (signS p s r).1,rI (signS p s r).2]):=by
 have c1:=q4v p ho;have c2:=q7h s;have c3:=q7h r;have c4:=q4z p ho;unfold signS;cases h1:vPac p with
 |false=>
  rw [h1] at c1;obtain ⟨c,a,u,g,w⟩:=p;refine q0f rfl rfl ?_;refine rQ fi13 ?_;refine cQ c1 ?_;trivial
 |true=>
 cases h2:vKey s with
 |false=>
  rw [h1] at c1;rw [h2] at c2;obtain ⟨c,a,u,g,w⟩:=p;obtain ⟨s1,s2,s3⟩:=s;refine q0f rfl rfl ?_;refine rQ fi13 ?_;refine cQ c1 ?_;refine cQ c2 ?_;trivial
 |true=>
 cases h3:vKey r with
 |false=>
  rw [h1] at c1;rw [h2] at c2;rw [h3] at c3;obtain ⟨c,a,u,g,w⟩:=p;obtain ⟨s1,s2,s3⟩:=s;obtain ⟨r1,r2,r3⟩:=r;refine q0f rfl rfl ?_;refine rQ fi13 ?_;refine cQ c1 ?_;refine cQ c2 ?_;refine cQ c3 ?_;trivial
 |true=>
  have hsl:=q4W s 17 (pacS p) (q1M h2).1;have hs32:=(q1M h2).1;have hpl:=(z0G h1).1;have c5:=j2i s 17 (pacS p) hs (q9g h2 (by decide)) (by omega)
  have c6:=j2i r 18 (smS s 17 (pacS p)) hr (q9g h3 (by decide)) (by omega)
  have c7:=j2c (signX p s r) ⟨ho,z8J _ _ h2,z8J _ _ h3⟩ (z3z h1 h2 h3);have hX:signX p s r=(p,(s.1,s.2.1,smS s 17 (pacS p)),(r.1,r.2.1,smS r 18 (smS s 17 (pacS p)))):=rfl;generalize sgnS (signX p s r)=y at*;rw [hX] at c7;clear hX;rw [h1] at c1;rw [h2] at c2;rw [h3] at c3;have c4:=c4 h1;generalize pacS p=w at*;generalize smS s 17 w=m1 at*;generalize smS r 18 m1=m2 at*;obtain ⟨c,a,u,g,w⟩:=p;obtain ⟨s1,s2,s3⟩:=s;obtain ⟨r1,r2,r3⟩:=r;refine q0f rfl rfl ?_;refine rQ fi13 ?_;refine cQ c1 ?_;refine cQ c2 ?_;refine cQ c3 ?_;refine cR c4 ?_;refine cR c5 ?_;refine cQ c6 ?_;refine cQ c7 ?_;refine ⟨fun h=> ?_,fun h=> ?_⟩
  · rw [if_pos (show 4096<y.length by omega)]
    exact ⟨rfl,rfl⟩
  rw [if_neg (show ¬4096<y.length by omega)]
  exact ⟨rfl,rfl⟩
def argK(k:Key):Bool:=noK k||vKey k
theorem z5g{k:Key}{u:Nat}(h:argK k=true)(hu:1≤u∧u≤1023):noK k=false→uOk k u=true:=fun hn=>by
 unfold argK at h;rw [hn,Bool.false_or] at h;exact q9g h ⟨by omega,by omega⟩
def vfyS(b:List UInt8)(s r:Key):Pac×Int:=if argK s&& argK r then (match decSg b with
 |none=>(PacT.dflt,6)
 |some x=>if rightB s 17 (pacS x.1) x.2.1 then (if rightB r 18 x.2.1.2.2 x.2.2 then (x.1,0) else (PacT.dflt,231)) else (PacT.dflt,230)) else (PacT.dflt,2)
theorem j6G(x:Sgd)(s:Key)(ho:SgT.ok x)(hv:vSgn x=true)(hs:KeyT.ok s)(ha:argK s=true):PC Tryz.prog 54 [.agg (SgT.cells x),.iptr KeyT s 0] (rB (rightB s 17 (pacS x.1) x.2.1)):=by
 simp only [vSgn,Aj] at hv;have h1:=q4z x.1 ho.1 hv.1;have h2:=z4X s 17 (pacS x.1) x.2.1 hs (z5g ha (by decide)) (by have:=(z0G hv.1).1;omega) (by have:=(q1M hv.2.1).1;omega)
 generalize rightB s 17 (pacS x.1) x.2.1=q at*;clear hv;generalize pacS x.1=w at*;obtain ⟨⟨c,a,u,g,w⟩,⟨p1,p2,p3⟩,⟨q1,q2,q3⟩⟩:=x;obtain ⟨s1,s2,s3⟩:=s;refine q0p rfl rfl ?_;refine rQ fi54 ?_;refine cR h1 ?_;refine cR h2 ?_;trivial
theorem j6L(x:Sgd)(r:Key)(hv:vSgn x=true)(hr:KeyT.ok r)(ha:argK r=true):PC Tryz.prog 56 [.agg (SgT.cells x),.iptr KeyT r 0] (rB (rightB r 18 x.2.1.2.2 x.2.2)):=by
 simp only [vSgn,Aj] at hv;have h2:=z4X r 18 x.2.1.2.2 x.2.2 hr (z5g ha (by decide)) (by have:=(q1M hv.2.1).1;omega) (by have:=(q1M hv.2.2).1;omega)
 generalize rightB r 18 x.2.1.2.2 x.2.2=q at*;clear hv;obtain ⟨⟨c,a,u,g,w⟩,⟨p1,p2,p3⟩,⟨q1,q2,q3⟩⟩:=x;obtain ⟨s1,s2,s3⟩:=r;refine q0p rfl rfl ?_;refine rQ fi56 ?_;refine cQ h2 ?_;trivial
theorem q5B{b:List UInt8}(hb:b.length≤1099511627776)(x:Sgd)(h:decSg b=some x):SgT.ok x∧vSgn x=true:=by
 refine ⟨?_,(q8Z h).1⟩;unfold decSg allP at h;cases hx:sgP b with
 |error e=>rw [hx] at h;cases h
 |ok y=>
  obtain ⟨f,m⟩:=y;rw [hx] at h;dsimp only at h;split at h
  · rename_i heq;split at heq
    · cases heq
    cases heq;split at h
    · cases h;exact j2b b _ _ hb hx
    cases h
  cases h
theorem q3K(b:List UInt8)(s r:Key)(hb:b.length≤1099511627776)(hs:KeyT.ok s)(hr:KeyT.ok r):PC Tryz.prog 15 [.isl .u8 b,.agg (KeyT.cells s),.agg (KeyT.cells r)] (.tup [.agg (PacT.cells (vfyS b s r).1),rI (vfyS b s r).2]):=by
 have n1:=z2P s;have n2:=z2P r;have v1:=q7h s;have v2:=q7h r;have hd:=z5p b hb;obtain ⟨Y,hY⟩:∃Y,Y=vfyS b s r:=⟨_,rfl⟩;rw [←hY];unfold vfyS at hY;have hva:=fun x hv=>j6G x s (q5B hb x hv).1 (q5B hb x hv).2 hs;have hvb:=fun x hv=>j6L x r (q5B hb x hv).2 hr;have e0:((0:Nat):Int)=0:=rfl;have e1:((1:Nat):Int)=1:=rfl;have hs':=hs;have hr':=hr;obtain ⟨s1,s2,s3⟩:=s;obtain ⟨r1,r2,r3⟩:=r;refine q0f rfl rfl ?_;refine q3E fi15 ?_;refine uQ 5 _ ?_;with_reducible refine sxE ?_
 refine q4g 4 0 (ty:=KeyT) (x:=(s1,s2,s3)) rfl hs' rfl rfl ?_;refine q4g 5 1 (ty:=KeyT) (x:=(r1,r2,r3)) rfl hr' rfl rfl ?_;refine gQ ?_;refine q0R (fun i=>[(18,rI (i:Nat))]) 2 (fun j=>argK (if j=0 then (s1,s2,s3) else (r1,r2,r3))=true) (by first|decide|simp) (fun i=>rfl) ?_ fun i hi hall=> ?_
 · with_reducible refine sxE ?_;trivial
 have hwr:=wsx i (by omega)
 by_cases h0:i=0
 · subst h0;refine gy1 e0 ?_;refine q0a n1 ?_;cases hn:noK (s1,s2,s3) with
   |true=>
    have ha:argK (s1,s2,s3)=true:=by unfold argK;rw [hn,CM]
    refine gQ ?_;refine ⟨by decide,fun j hj=> ?_,⟨[_],rfl⟩,?_⟩
    · rw [if_pos (show j=0 by omega)];exact ha
    with_reducible refine sxE ?_
    rfl
   |false=>
    refine gQ ?_;refine q0a v1 ?_;cases hv:vKey (s1,s2,s3) with
    |true=>
     have ha:argK (s1,s2,s3)=true:=by unfold argK;rw [hv,Ca]
     refine gQ ?_;refine ⟨by decide,fun j hj=> ?_,⟨[_],rfl⟩,?_⟩
     · rw [if_pos (show j=0 by omega)];exact ha
     with_reducible refine sxE ?_
     rfl
    |false=>
     have ha:argK (s1,s2,s3)=false:=by unfold argK;rw [hn,hv];rfl
     refine gQ ?_;rw [ha,AR] at hY;rw [hY];exact ⟨⟨rfl,rfl,rfl,rfl,rfl,rfl⟩,rfl⟩
 by_cases h1:i=1
 · subst h1;refine gy1 e1 ?_;refine q0a n2 ?_;cases hn:noK (r1,r2,r3) with
   |true=>
    have ha:argK (r1,r2,r3)=true:=by unfold argK;rw [hn,CM]
    refine gQ ?_;refine ⟨by decide,fun j hj=> ?_,⟨[_],rfl⟩,?_⟩
    · exact if hj0:j=0 then hall j (by omega) else by rw [if_neg hj0];exact ha
    with_reducible refine sxE ?_
    rfl
   |false=>
    refine gQ ?_;refine q0a v2 ?_;cases hv:vKey (r1,r2,r3) with
    |true=>
     have ha:argK (r1,r2,r3)=true:=by unfold argK;rw [hv,Ca]
     refine gQ ?_;refine ⟨by decide,fun j hj=> ?_,⟨[_],rfl⟩,?_⟩
     · exact if hj0:j=0 then hall j (by omega) else by rw [if_neg hj0];exact ha
     with_reducible refine sxE ?_
     rfl
    |false=>
     have ha:argK (r1,r2,r3)=false:=by unfold argK;rw [hn,hv];rfl
     refine gQ ?_;rw [ha,BH] at hY;rw [hY];exact ⟨⟨rfl,rfl,rfl,rfl,rfl,rfl⟩,rfl⟩
 obtain rfl:i=2:=by omega
 have ha:=hall 0 (by omega)
 have hb2:=hall 1 (by omega)
 rw [if_pos rfl] at ha;rw [if_neg (by decide)] at hb2
 have e2:((2:Nat):Int)=2:=rfl;rw [ha,hb2,BD,if_pos rfl] at hY;clear hall hwr h0 h1;refine gy1 e2 ?_;cases hx:decSg b with
 |none=>
  rw [hx] at hY hd;dsimp only at hY;rw [hY];refine q0a hd ?_;refine uQ 600 _ ?_;simp (maxSteps:=3000000) only [Option.isSome_none,go_sem,↓zA,↓reduceIte,↓reduceDIte] <;>try simp only [zB]
  exact ⟨rfl,rfl,rfl,rfl,rfl,rfl⟩
 |some x=>
  rw [hx] at hY hd;have c1:=hva x hx ha;have c2:=hvb x hx hb2;dsimp only at hY;generalize rightB (s1,s2,s3) 17 (pacS x.1) x.2.1=g1 at*;generalize rightB (r1,r2,r3) 18 x.2.1.2.2 x.2.2=g2 at*;clear hva hvb;obtain ⟨⟨c,a,u,g,w⟩,⟨p1,p2,p3⟩,⟨q1,q2,q3⟩⟩:=x;have hd:PC Tryz.prog 51 _ (.tup [.agg (SgT.cells ((c,a,u,g,w),(p1,p2,p3),(q1,q2,q3))),rI 0]):=hd;refine cQ hd ?_;refine q0R (fun i=>[(45,rI (i:Nat))]) 2 (fun j=>(if j=0 then g1 else g2)=true) (by first|decide|simp) (fun i=>rfl) ?_ fun i hi hall=> ?_
  · with_reducible refine sxE ?_;trivial
  by_cases h0:i=0
  · subst h0;refine gy1 e0 ?_;refine q0a c1 ?_;cases g1 with
    |false=>
     rw [hY];refine gQ ?_;exact ⟨rfl,rfl,rfl,rfl,rfl,rfl⟩
    |true=>
     refine gQ ?_;refine ⟨by decide,fun j hj=> ?_,⟨[],rfl⟩,?_⟩
     · rw [if_pos (show j=0 by omega)]
     with_reducible refine sxE ?_
     rfl
  by_cases h1:i=1
  · subst h1;have hg:=hall 0 (by omega)
    rw [if_pos rfl] at hg;rw [hg] at hY;refine gy1 e1 ?_;refine q0a c2 ?_;cases g2 with
    |false=>
     rw [hY];refine gQ ?_;exact ⟨rfl,rfl,rfl,rfl,rfl,rfl⟩
    |true=>
     refine gQ ?_;refine ⟨by decide,fun j hj=> ?_,⟨[],rfl⟩,?_⟩
     · exact if hj0:j=0 then hall j (by omega) else by rw [if_neg hj0]
     with_reducible refine sxE ?_
     rfl
  obtain rfl:i=2:=by omega
  have hg:=hall 0 (by omega)
  have hg2:=hall 1 (by omega)
  rw [if_pos rfl] at hg;rw [if_neg (by decide)] at hg2
  rw [hg,hg2] at hY;rw [hY];refine gy1 e2 ?_;trivial
theorem j4j{b:List UInt8}(hb:b.length≤1099511627776)(s r:Key):PacT.ok (vfyS b s r).1:=by
 have hz:PacT.ok PacT.dflt:=⟨⟨q7v,j3Q⟩,trivial,trivial,q7v,q7v⟩;unfold vfyS;split
 · cases h:decSg b with
   |none=>exact hz
   |some x=>
    dsimp only;have:=(q5B hb x h).1.1;split
    · split
      · exact this
      exact hz
    exact hz
 exact hz
end Go.Proofs.YtmapiojgmbgbgaaGreatDoor
