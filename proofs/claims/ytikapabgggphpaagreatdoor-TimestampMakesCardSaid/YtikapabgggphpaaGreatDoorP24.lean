/- HMAC: contracts: the program's keyed hashes. -/
import Derived.Test.YtikapabgggphpaaGreatDoorP23
import Derived.Test.YtikapabgggphpaaGreatDoorP17
import Derived.Test.YtikapabgggphpaaGreatDoorP12
import Derived.Test.YtikapabgggphpaaGreatDoorP21
import Derived.Test.YtikapabgggphpaaGreatDoorP18
import Derived.Test.YtikapabgggphpaaGreatDoorP20
set_option linter.all false
namespace Go.Proofs.YtikapabgggphpaaGreatDoor
open Go Go.Sx Go.Proofs
set_option maxRecDepth 100000
set_option maxHeartbeats 40000000
def padK(k:List UInt8):List UInt8:=hkC k++List.replicate (64- (hkC k).length) 0
theorem j0W(k:List UInt8):(hkC k).length≤64:=by
 unfold hkC;split
 · have:(shaS k).length=32:=q0G _;omega
 omega
theorem z8R(k:List UInt8):(padK k).length=64:=by
 have:=j0W k;unfold padK;rw [Ad,Bw];omega
theorem z4R(k:List UInt8)(c:UInt8):hkP (padK k) c 64=hkS k c:=by
 unfold hkS hkP;apply Bg;intro i hi;have hi':i<64:=Bz.1 hi;rw [if_pos hi',if_pos hi'];congr 1;unfold padK;rw [Ab,Ab];rcases AH i (hkC k).length with h|h
 · rw [Ai h]
 rw [Ao h,AS h,List.getElem?_replicate];split<;>rfl
def macI(k:List UInt8):(List UInt8×List UInt8)×(HaD×Bool):=((hkS k 92,hkS k 54),(wrS [] hz0 (hkS k 54),true))
theorem j2e{ty:Ty}{x:ty.den}{v:Value}{H':List SObj}{h:Nat}(hH:H'[h]?=some (.row ty [x])):Weak 0 (fun o' H''=>o'= .ret (.tup [.rptr 0 ty 0 0,.raw v])∧H''= [.row ty [x]]) (.ret (.tup [.rptr h ty 0 0,.raw v])) H':=
 ⟨fun _=>h,.tup [.rptr 0 ty 0 0,.raw v],.tup [.rptr 0 ty 0 0,.raw v],[.row ty [x]],⟨⟨rfl,trivial⟩,⟨hH,trivial⟩,rfl,rfl,rfl,rfl,Aj _,fun _ h0=>absurd h0 (AT 0)⟩,.inl (.inl rfl),⟨rfl,rfl⟩⟩
abbrev HTT:Ty:=(.prod (.arr 8 (.int .u32)) (.prod (.arr 64 .u8) (.int .i64))) 
abbrev MTT:Ty:=(.prod (.prod (.arr 64 .u8) (.arr 64 .u8)) (.prod (.prod (.arr 8 (.int .u32)) (.prod (.arr 64 .u8) (.int .i64))) .bool)) 
theorem j3L(k:List UInt8)(hk:k.length≤64):PE Tryz.prog 159 [.isl .u8 k] [] (.ret (.tup [.rptr 0 (.prod (.prod (.arr 64 .u8) (.arr 64 .u8)) (.prod (.prod (.arr 8 (.int .u32)) (.prod (.arr 64 .u8) (.int .i64))) .bool)) 0 0,rI 0])) [.row (.prod (.prod (.arr 64 .u8) (.arr 64 .u8)) (.prod (.prod (.arr 8 (.int .u32)) (.prod (.arr 64 .u8) (.int .i64))) .bool)) [macI k]]:=by
 have c1:(4096< (k.length:Int))=False:=eq_false (by omega)
 have c2:(64< (k.length:Int))=False:=eq_false (by omega)
 have hkc:hkC k=k:=if_neg (by omega)
 have hkm:min k.length 64=k.length:=by omega
 have hpl:=z8R k;refine j3Y ?_;refine q0V fi159 ?_;refine uQ 600 _ ?_;simp (maxSteps:=3000000) only [c1,c2,hkm,AE,go_sem,↓zA,↓reduceIte,↓reduceDIte] <;>try simp only [zB]
 have hrow:∀l,l=List.replicate 64 (0:UInt8)→k++List.drop (0+k.length) l=padK k:=fun l hl=>by
  subst hl;unfold padK;rw [hkc,Ac,List.drop_replicate]
 rw [hrow]
 case a=>rfl
 refine ⟨⟨by decide,by decide⟩,by omega,?_⟩
 refine q0j [0] (q6c (t:=.u8) (xs:=padK k) (j0G (padK k) 92 hpl) rfl (by omega) (.cons (.keep rfl) (.cons (z2g hpl (by decide)) .nil))) rfl (by decide) (by repeat first|exact trivial|exact rfl|refine And.intro ?_ ?_) rfl rfl ?_
 simp only [afterO,Out.ren,SV.ren,mgA,sig,SObj.ren,SV.renL,List.set,List.map,Ah,Ba,AJ];refine gQ ?_;refine q0j [0] (q6c (t:=.u8) (xs:=padK k) (j0G (padK k) 54 hpl) rfl (by omega) (.cons (.keep rfl) (.cons (z2g hpl (by decide)) .nil))) rfl (by decide) (by repeat first|exact trivial|exact rfl|refine And.intro ?_ ?_) rfl rfl ?_
 simp only [afterO,Out.ren,SV.ren,mgA,sig,SObj.ren,SV.renL,List.set,List.map,Ah,Ba,AJ];rw [z4R,z4R];refine gQ ?_;refine eQ [1] (j2U (hkS k 92) (hkS k 54) _ true (q2v _ _ _)) ?_;exact j2e rfl
theorem z9U(m b:List UInt8)(ks:List UInt8×List UInt8)(x:HaD)(hx:HRep m x)(hl:m.length+b.length≤70368744177664):PE Tryz.prog 160 [.rptr 0 (.prod (.prod (.arr 64 .u8) (.arr 64 .u8)) (.prod (.prod (.arr 8 (.int .u32)) (.prod (.arr 64 .u8) (.int .i64))) .bool)) 0 0,.isl .u8 b] [.row (.prod (.prod (.arr 64 .u8) (.arr 64 .u8)) (.prod (.prod (.arr 8 (.int .u32)) (.prod (.arr 64 .u8) (.int .i64))) .bool)) [(ks,(x,true))]] (.ret (rI 0)) [.row (.prod (.prod (.arr 64 .u8) (.arr 64 .u8)) (.prod (.prod (.arr 8 (.int .u32)) (.prod (.arr 64 .u8) (.int .i64))) .bool)) [(ks,(wrS m x b,true))]]:=by
 refine q0g (Ag _) ?_;refine rQ fi160 ?_;refine eQ [0] (z9e m b x ks true hx hl) ?_;trivial
theorem j4z(m:List UInt8)(o i:List UInt8)(x:HaD)(hx:HRep m x)(hl:m.length≤70368744177664)(ho:o.length=64):PE Tryz.prog 161 [.rptr 0 (.prod (.prod (.arr 64 .u8) (.arr 64 .u8)) (.prod (.prod (.arr 8 (.int .u32)) (.prod (.arr 64 .u8) (.int .i64))) .bool)) 0 0] [.row (.prod (.prod (.arr 64 .u8) (.arr 64 .u8)) (.prod (.prod (.arr 8 (.int .u32)) (.prod (.arr 64 .u8) (.int .i64))) .bool)) [((o,i),(x,true))]] (.ret (.tup [.dat (.arr 32 .u8) (shaS (o++shaS m)),rI 0])) [.row (.prod (.prod (.arr 64 .u8) (.arr 64 .u8)) (.prod (.prod (.arr 8 (.int .u32)) (.prod (.arr 64 .u8) (.int .i64))) .bool)) [((o,i),(x,true))]]:=by
 have hsl:(shaS m).length=32:=q0G _;have hsl2:(shaS (o++shaS m)).length=32:=q0G _;have hg:RLies MTT [((o,i),(x,true))] (0*MTT.size+128) HTT x:=.inl ⟨_,rfl,rfl⟩;refine q0g (Ag _) ?_;refine q0V fi161 ?_;refine uQ 21 _ ?_
 with_reducible refine sxE ?_
 refine q1N [0] mixed ?_;refine uQ 600 _ ?_
 with_reducible refine sxE ?_
 refine q0L [0] (q6c (t:=MTT) (xs:=[((o,i),(x,true))]) (j0e m x hx hl) rfl (by simp) (.cons (.ptr hg) .nil)) rfl (by decide) (by repeat first|exact trivial|exact rfl|refine And.intro ?_ ?_) rfl rfl (fun h hh=> ?_) ?_
 · obtain rfl:h=0:=by simpa using hh
   rfl
 simp only [afterR,Out.ren,SV.ren,mgA,sig,SObj.ren,SV.renL,List.set,List.map,Ah,Ba,AJ];refine gy1 hsl ?_;refine q0L [0] (z8B o i (shaS m) x true ho hsl) rfl (by decide) (by repeat first|exact trivial|exact rfl|refine And.intro ?_ ?_) rfl rfl (fun h hh=> ?_) ?_
 · obtain rfl:h=0:=by simpa using hh
   rfl
 simp only [afterR,Out.ren,SV.ren,mgA,sig,SObj.ren,SV.renL,List.set,List.map,Ah,Ba,AJ];refine gy1 hsl2 ?_;trivial
def hmS(k b:List UInt8):List UInt8:=shaS (hkS k 92++shaS (hkS k 54++b))
theorem q2o(k b:List UInt8):(hmS k b).length=32:=q0G _
def mWr(k:List UInt8)(ps:List (List UInt8)):Nat→HaD
 |0=>wrS [] hz0 (hkS k 54)
 |i+1=>wrS (hkS k 54++(ps.take i).flatten) (mWr k ps i) (ps.getD i [])
theorem q3u{ps:List (List UInt8)}{i:Nat}(h:i<ps.length):(ps.take (i+1)).flatten=(ps.take i).flatten++ps.getD i []:=by
 rw [List.take_succ_eq_append_getElem h,BM,BA,Ab,Ae h];rfl
theorem z5y(k:List UInt8)(ps:List (List UInt8)):∀i,i≤ps.length→HRep (hkS k 54++(ps.take i).flatten) (mWr k ps i)
 |0,_=>by
  have:=q8Y (b:=hkS k 54) q8w;simpa [mWr] using this
 |i+1,hi=>by
  have:=q8Y (b:=ps.getD i []) (z5y k ps i (by omega))
  rw [List.append_assoc,←q3u (by omega)] at this
  exact this
theorem q1k:∀ (ps:List (List UInt8)) (i:Nat),(ps.take i).flatten.length≤ps.flatten.length
 | [],i=>by simp
 |p :: ps,0=>by simp
 |p :: ps,i+1=>by simp only [List.take_succ_cons,AL,Ad];have:=q1k ps i;omega
theorem j0t(k:List UInt8)(ps:List (List UInt8))(hk:k.length≤64)(hp:ps.flatten.length≤1099511627776)(hpl:ps.length≤1099511627776):PC Tryz.prog 142 [.isl .u8 k,.isl (.slice .u8) ps] (.tup [.dat (.arr 32 .u8) (hmS k ps.flatten),rI 0]):=by
 refine q0q rfl rfl ?_;refine q0V fi142 ?_;refine uQ 600 _ ?_
 with_reducible refine sxE ?_
 refine eQ [] (j3L k hk) ?_;refine q0f (ι:=Nat) (fun i=>[(21,rI i)]) (fun i=>[.row .u8 (List.replicate 32 0),.row (.prod (.prod (.arr 64 .u8) (.arr 64 .u8)) (.prod (.prod (.arr 8 (.int .u32)) (.prod (.arr 64 .u8) (.int .i64))) .bool)) [((hkS k 92,hkS k 54),(mWr k ps i,true))]]) (fun i=>ps.length-i) (fun i=>i≤ps.length) 0 (Aj _) rfl ?_ ?_
 · with_reducible refine sxE ?_;trivial
 intro i hi;have hrep:=z5y k ps i hi;have hwr:=wsx i (by omega)
 have hfl:=q1k ps i;have hil:(hkS k 54).length=64:=q2v _ _ _
 by_cases h:i<ps.length
 · have hf1:=q3u h;have hfl1:=q1k ps (i+1);rw [hf1,Ad] at hfl1;refine gQ ?_;refine ⟨fun _=>⟨⟨by omega,h⟩,?_⟩,fun hh=>absurd h hh⟩
   refine eQ [1] (z9U (hkS k 54++(ps.take i).flatten) (ps.getD i []) (hkS k 92,hkS k 54) _ hrep (by rw [Ad];omega)) ?_
   refine ⟨i+1,h,by dsimp only;omega,rfl,?_⟩
   with_reducible refine sx1 hwr ?_;trivial
 obtain rfl:i=ps.length:=by omega
 rw [AE] at hrep;have hsl:(shaS (hkS k 92++shaS (hkS k 54++ps.flatten))).length=32:=q0G _;refine gQ ?_;refine ⟨fun hh=>absurd hh (by omega),fun _=> ?_⟩
 refine q0j [1] (j4z (hkS k 54++ps.flatten) (hkS k 92) (hkS k 54) _ hrep (by rw [Ad];omega) (q2v _ _ _)) rfl (by decide) (by repeat first|exact trivial|exact rfl|refine And.intro ?_ ?_) rfl rfl ?_
 simp only [afterO,Out.ren,SV.ren,mgA,sig,SObj.ren,SV.renL,List.set,List.map,Ah,hsl];refine gy1 hsl ?_;rfl
def four(n:Nat):List UInt8:=[UInt8.ofNat (n / 2^ 24%256),UInt8.ofNat (n / 2^ 16%256),UInt8.ofNat (n / 2^ 8%256),UInt8.ofNat (n / 2^ 0%256)]
theorem q5P(n:Nat):(four n).length=4:=rfl
theorem fdivN(n m:Nat)(hm:m≤64):((n:Int).fdiv (2^ min m 64))=((n / 2^ m:Nat):Int):=by
 rw [A5 hm,AX _ (by exact_mod_cast Aj (2^ m))]
 simp
theorem byteN(n m:Nat)(hm:m≤64):UInt8.ofNat (IntKind.u8.wrap ((n:Int).fdiv (2^ min m 64))).toNat=UInt8.ofNat (n / 2^ m%256):=by
 rw [fdivN n m hm];generalize n / 2^ m=m;rw [u8wrapR];congr 1
theorem byteN0(n:Nat):UInt8.ofNat (IntKind.u8.wrap (n:Int)).toNat=UInt8.ofNat (n / 2^ 0%256):=by
 rw [Nat.pow_zero,Nat.div_one,u8wrapR];congr 1
theorem j0h(n:Nat):PC Tryz.prog 143 [rI n] (.isl .u8 (four n)):=by
 refine q0i rfl rfl ?_;refine rQ fi143 ?_;refine ⟨⟨q0Z _,q0Z _,q0Z _,q0Z _⟩,?_⟩;rw [byteN _ 24 (by decide),byteN _ 16 (by decide),byteN _ 8 (by decide),byteN0]
 rfl
theorem j2s(n:Nat)(ls:List (List UInt8))(h1:1≤n)(h2:n≤1024)(hl:∀l∈ls,l.length≤4096)(hn:ls.length≤100):PC Tryz.prog 120 [rI n,.isl (.slice .u8) ls] (rB true):=by
 refine q0q rfl rfl ?_;refine rQ fi120 ?_;refine q0f (ι:=Nat) (fun i=>[(9,rI i)]) (fun i=>[]) (fun i=>ls.length-i) (fun i=>i≤ls.length) 0 (Aj _) rfl ?_ ?_
 · with_reducible refine sxE ?_;trivial
 intro i hi;have hwr:=wsx i (by omega)
 by_cases h:i<ls.length
 · have hli:(ls.getD i []).length≤4096:=by
    rw [Ab,Ae h];exact hl _ (Bu _)
   have hli':(4096< (((ls.getD i (Ty.dflt (.slice .u8))).length:Nat):Int))=False:=eq_false (by show ¬(4096< (((ls.getD i []).length:Nat):Int));omega)
   refine gy1 hli' ?_;refine ⟨fun _=>⟨⟨by omega,h⟩,i+1,h,by dsimp only;omega,rfl,?_⟩,fun hh=>absurd h hh⟩
   with_reducible refine sx1 hwr ?_;trivial
 obtain rfl:i=ls.length:=by omega
 refine gQ ?_;exact ⟨fun hh=>absurd hh (by omega),fun _=>⟨fun _=>by omega,fun hh=>absurd hh (by omega)⟩⟩
abbrev derT:Ty:=.prod (.slice .u8) (.prod (.slice .u8) (.prod (.slice .u8) (.int .i64)))
def kblk(key label ctx:List UInt8)(n i:Nat):List UInt8:=hmS key (four i++label++ [0]++ctx++four (8*n))
theorem q3K(key label ctx:List UInt8)(n i:Nat):(kblk key label ctx n i).length=32:=q2o _ _
theorem z9K(key label ctx:List UInt8)(n i:Nat)(hk:key.length≤64)(hl:label.length≤4096)(hc:ctx.length≤4096)(hn:n≤1024)(hi:i≤1000000):PC Tryz.prog 123 [.agg [.isl .u8 key,.isl .u8 label,.isl .u8 ctx,rI n],rI i] (.dat (.arr 32 .u8) (kblk key label ctx n i)):=by
 have hw8:IntKind.i64.wrap (8* (n:Int))=((8*n:Nat):Int):=by rw [wrapi (by omega)];omega
 refine q0q rfl rfl ?_;refine ry1 fi123 hw8 ?_;refine q0K (j0h i) ?_;refine gQ ?_;refine q0K (j0h (8*n)) ?_;refine gQ ?_;have hfl:[four i,label,[UInt8.ofNat 0],ctx,four (8*n)].flatten=four i++label++ [0]++ctx++four (8*n):=by simp
 have hfn:[four i,label,[UInt8.ofNat 0],ctx,four (8*n)].flatten.length≤1099511627776:=by
  rw [hfl];simp only [Ad,q5P,AK,CN];omega
 have hm:=j0t key [four i,label,[UInt8.ofNat 0],ctx,four (8*n)] hk hfn (by simp)
 rw [hfl] at hm;have hkl:=q3K key label ctx n i;change PC _ _ _ (.tup [.dat (.arr 32 .u8) (kblk key label ctx n i),_]) at hm;generalize kblk key label ctx n i=kb at*;refine ⟨by decide,q0K hm ?_⟩
 have htk:List.take 32 kb=kb:=Aa (by omega)
 refine gy2 hkl htk ?_;trivial
set_option maxHeartbeats 4000000
def allN(n:Nat)(q:Nat→Bool):Bool:=(List.range n).all q
theorem z2m{n:Nat}{q:Nat→Bool}:allN n q=true ↔ ∀j,j<n→q j=true:=by simp [allN]
theorem q1P{n i:Nat}{q:Nat→Bool}(h:i<n)(hq:q i=false):allN n q=false:=by
 rw [Bool.eq_false_iff];exact fun ha=>by rw [z2m.1 ha i h] at hq;cases hq
theorem q1U{n:Nat}{q:Nat→Bool}(h:∀j,j<n→q j=true):allN n q=true:=z2m.2 h
@[go_sem] def fnV(f:Nat):Value:=.func (.func f) #[] #[]
def name1:ByteArray:=⟨#[97,101,115,49,50,56,45,99,116,115,45,104,109,97,99,45,115,104,97,50,53,54,45,49,50,56]⟩
def name2:ByteArray:=⟨#[115,116,114,101,97,109,45,104,109,97,99,45,115,104,97,50,53,54,45,50,53,54]⟩
def kind1:List Value:=[.string name1,.int .i64 16,.int .i64 16,.int .i64 16,.int .i64 16,fnV 114,fnV 115,fnV 116]
def kind2:List Value:=[.string name2,.int .i64 32,.int .i64 16,.int .i64 32,.int .i64 32,fnV 117,fnV 118,fnV 119]
abbrev kindsM:SV:=.imap (some .i64) [.int .i64 1,.int .i64 2] [.agg kind1.toArray,.agg kind2.toArray]

theorem j3g:PC Tryz.prog 81 [] kindsM:=by
 refine q0q rfl rfl (j2p ?_);refine rQ fi81 ?_;exact ⟨_,_,_,[],rfl,rfl⟩

def keyLen(p:Int):Int:=if p=1 then 16 else if p=2 then 32 else 0
def kindZ:List Value:=[.string ⟨#[]⟩,.int .i64 0,.int .i64 0,.int .i64 0,.int .i64 0,.nilFunc,.nilFunc,.nilFunc]
def kindOf(p:Int):List Value:=if p=1 then kind1 else if p=2 then kind2 else kindZ
def vKey(k:Key):Bool:=decide (keyLen k.1≠0) && (decide ((k.2.2.length:Int)=keyLen k.1) && (decide (0≤k.2.1) && decide (k.2.1≤65535)))
theorem j0E(k:Key):PC Tryz.prog 41 [.agg (KeyT.cells k)] (.tup [.agg (rawL (kindOf k.1)),rB (vKey k)]):=by
 obtain ⟨p,v,b⟩:=k;refine q0q rfl (by simp [SV.clean,SV.cleanL,q4b]) ?_
 refine rQ fi41 ?_;refine q0K j3g ?_
 by_cases h1:p=1
 · subst h1;refine uQ 600 _ ?_;simp (maxSteps:=3000000) only [kind1,kindOf,vKey,keyLen,go_sem,↓zA,↓reduceIte,↓reduceDIte] <;>try simp only [zB]
   grind
 by_cases h2:p=2
 · subst h2;refine uQ 600 _ ?_;simp (maxSteps:=3000000) only [kind2,kindOf,vKey,keyLen,go_sem,↓zA,↓reduceIte,↓reduceDIte] <;>try simp only [zB]
   grind
 refine uQ 600 _ ?_;simp (maxSteps:=3000000) only [h1,h2,kindOf,kindZ,vKey,keyLen,go_sem,↓zA,↓reduceIte,↓reduceDIte] <;>try simp only [zB]
 grind
def dec:Bool→List UInt8→List UInt8→List (List UInt8)
 |_,cur,[]=>[cur]
 |true,cur,c :: r=>dec false (cur++ [c]) r
 |false,cur,c :: r=>if c=92 then dec true cur r else if c=47 then cur :: dec false [] r else dec false (cur++ [c]) r
theorem q5C(p:Int):kindOf p=kind1∨kindOf p=kind2∨kindOf p=kindZ:=by
 unfold kindOf;split
 · exact .inl rfl
 split
 · exact .inr (.inl rfl)
 exact .inr (.inr rfl)
theorem q2b(l:List UInt8)(hl:l.length≤140737488355328):PC Tryz.prog 63 [.isl .u8 l] (.isl .u8 l):=by
 refine q0i rfl rfl ?_;refine rQ fi63 ?_;intro b hb;refine ⟨hb,fun h=>⟨⟨by omega,by omega⟩,⟨by omega,by omega⟩,Aa (by omega)⟩⟩
set_option maxHeartbeats 40000000
theorem z3G(x:derT.den)(hok:derT.ok x):PC Tryz.prog 122 [.fn 123 [.agg (derT.cells x)] []] (.fn 141 [] [.iptr (.clo 123 derT) x 0]):=by
 refine q0q rfl rfl ?_;refine q0V fi122 ?_;refine uQ 3 _ ?_
 with_reducible refine sxE ?_
 refine q2l 1 0 (ty:=.clo 123 derT) (x:=x) rfl hok rfl rfl ?_;refine gQ ?_;trivial
def vwK(key label ctx:List UInt8)(n:Nat):Nat→Nat→List SV→List SObj→Prop:=fun i _ args' new=>args'= [rI ((i+1:Nat):Int),.isl .u8 (kblk key label ctx n (i+1))]∧new= []
theorem z1u(key label ctx:List UInt8)(n N:Nat)(hk:key.length≤64)(hl:label.length≤4096)(hc:ctx.length≤4096)(hn:n≤1024)(hN:N≤1000):IterI True Tryz.prog 141 [] [.iptr (.clo 123 derT) (key,label,ctx,(n:Int)) 0] N (vwK key label ctx n):=by
 refine ⟨by kernel_rfl,fun l B J hJ yg hno=> ?_⟩
 refine (q1z (yFG hJ) fi141 ?_).2
 letI:Ghost:=topG (yFG hJ) []
 refine uQ 600 _ ?_
 with_reducible refine sxE ?_
 refine q8U [] (fun i=>i) (fun i=>[(3,rI ((i+1:Nat):Int))]) N (fun _=>True) trivial rfl (by simp) (by simp [SV.bel]) ?_ fun i hi _=> ?_
 · with_reducible refine sxE ?_
   rfl
 by_cases hlt:i<N
 · have hwr:IntKind.i64.wrap (((i+1:Nat):Int)+1)=((i+1+1:Nat):Int):=q2m (by omega)
   refine gQ ?_;refine q0a (z9K key label ctx n (i+1) hk hl hc hn (by omega)) ?_
   have hbl:=q3K key label ctx n (i+1);generalize hb:kblk key label ctx n (i+1)=b at*;refine uQ 8 _ ?_
   with_reducible refine sx1 hbl ?_
   refine ⟨⟨by decide,by decide⟩,?_⟩
   refine q1b 1 rfl rfl (by rw [hbl];decide) ?_ ?_ ?_
   · with_reducible refine sxE ?_;trivial
   · with_reducible refine sxE ?_
     omega
   with_reducible refine sxE ?_
   have htk:List.take 32 (List.drop 0 b)=b:=by rw [AG];exact Aa (by omega)
   refine gy1 htk ?_;refine q2d [.dead] hJ yg hlt (fun n=>⟨_,_,⟨by rw [hb,Aa (show b.length≤32 by omega)],rfl⟩,q1f rfl⟩) fun c=> ?_
   cases c
   · refine gQ ?_;exact ⟨_,_,rfl,rfl,by omega⟩
   refine gQ ?_;refine ⟨hlt,trivial,⟨[_],rfl⟩,?_⟩
   with_reducible refine sx1 hwr ?_;trivial
 obtain rfl:i=N:=by omega
 exact z9I hJ (hno trivial)
def kacc(key label ctx:List UInt8)(n:Nat):Nat→List UInt8
 |0=>[]
 |i+1=>kacc key label ctx n i++kblk key label ctx n (i+1)
theorem q4J(key label ctx:List UInt8)(n:Nat):∀i,(kacc key label ctx n i).length=32*i
 |0=>rfl
 |i+1=>by rw [kacc,Ad,q4J key label ctx n i,q3K];omega
def kdfS(key label ctx:List UInt8)(n:Nat):List UInt8:=(kacc key label ctx n ((n+31) / 32)).take n
theorem z3m(key label ctx:List UInt8)(n:Nat):(kdfS key label ctx n).length=n:=by
 unfold kdfS;rw [Ak,q4J];omega
def frC(n i:Nat)(G:List SObj)(acc:List UInt8):List SObj:=.cells 3 [rI n] :: .cells 22 [.bld (G.length+2) .u8 (32*i)] :: (G++ [.row .u8 acc])
def frH(key label ctx:List UInt8)(n:Nat)(i:Nat)(H':List SObj):Prop:=i< (n+31) / 32∧∃G,(∃g,G=List.replicate g SObj.dead)∧H'=frC n i G (kacc key label ctx n i)
def frX(key label ctx:List UInt8)(n:Nat)(i:Nat)(ex:Ex)(H':List SObj):Prop:=ex= .exit 0∧i+1=(n+31) / 32∧∃G,(∃g,G=List.replicate g SObj.dead)∧H'=frC n (i+1) G (kacc key label ctx n (i+1))
theorem q6m{h:Nat}{t:Ty}{xs:List t.den}{l:List SObj}:∀g,frzObH h t xs l→frzObH h t xs (List.replicate g SObj.dead++l)
 |0,hl=>hl
 |g+1,hl=>⟨trivial,q6m g hl⟩
theorem j2m(key label ctx:List UInt8)(n:Nat)(hk:key.length≤64)(hl:label.length≤4096)(hc:ctx.length≤4096)(h1:1≤n)(hn:n≤1024):PC Tryz.prog 121 [rI n,.fn 141 [] [.iptr (.clo 123 derT) (key,label,ctx,(n:Int)) 0]] (.isl .u8 (kdfS key label ctx n)):=by
 refine q0q rfl rfl (q4g (q1z noFG fi121 ?_))
 letI:Ghost:=topG noFG []
 refine uQ 600 _ ?_
 with_reducible refine sxE ?_
 refine q5k 1 0 .u8 rfl rfl rfl ?_;have hN:(n+31) / 32≤1000:=by omega
 refine j0v (inf:=True) (frH key label ctx n) (frX key label ctx n) rfl rfl rfl (z1u key label ctx n ((n+31) / 32) hk hl hc hn hN) (fun _ Hn h=>absurd h.1 (AT _)) (fun i n args' new h=>by rw [h.1];rfl) ⟨by omega,[],⟨0,rfl⟩,rfl⟩ rfl ?_ ?_ ?_
 · rintro i _ args' new hi ⟨hlt,G,⟨g,hg⟩,rfl⟩ ⟨rfl,rfl⟩ L1 L2
   letI:Ghost:=pinG noFG L1
   rw [Ah];have hal:=q4J key label ctx n i;have hbl:=q3K key label ctx n (i+1);have hac:kacc key label ctx n i++kblk key label ctx n (i+1)=kacc key label ctx n (i+1):=rfl;generalize hka:kacc key label ctx n i=a at*;generalize hkb:kblk key label ctx n (i+1)=b at*;unfold frC;refine uQ 600 _ ?_;simp only [putL,BC]
   with_reducible refine sxaE ?_
   letI:Ghost:=pinG noFG L2
   refine gya2 hal hbl ?_;refine ⟨⟨by omega,by omega⟩,fun h=>⟨rfl,by omega,G++ [.dead],⟨g+1,by rw [hg,BH]⟩,?_⟩,fun h=>⟨by omega,G++ [.dead],⟨g+1,by rw [hg,BH]⟩,?_⟩⟩
   · rw [←hac];simp [frC,CP]
   rw [←hac];simp [frC,CP]
 · rintro D _ ⟨h,_⟩;exact absurd h (AT _)
 rintro D i ex _ hi ⟨rfl,hiN,G,⟨g,hg⟩,rfl⟩;refine ⟨_,rfl,?_⟩;unfold frC
 letI:Ghost:=topG noFG [D]
 have hal:=q4J key label ctx n (i+1);have hke:List.take n (kacc key label ctx n (i+1))=kdfS key label ctx n:=by rw [hiN];rfl
 generalize kacc key label ctx n (i+1)=a at*;refine uQ 5 _ ?_
 with_reducible refine sxaE ?_
 refine ⟨⟨by omega,by omega⟩,?_⟩
 refine q1b (G.length+2) (ty:=.u8) (xs:=a) rfl (by simp) (by omega) ?_ ?_ ?_
 · with_reducible refine sxaE ?_
   refine ⟨by omega,?_⟩
   rw [hg];exact q6m g ⟨trivial,trivial⟩
 · with_reducible refine sxaE ?_
   exact ⟨by omega,by omega⟩
 with_reducible refine sxaE ?_
 rw [Cv,hke];have hkl:(kdfS key label ctx n).length=n:=z3m _ _ _ _;refine uQ 600 _ ?_
 with_reducible refine sxaE ?_
 refine q0a (q2b (kdfS key label ctx n) (by omega)) ?_
 refine aQ ?_;trivial
theorem j5p(key label ctx:List UInt8)(n:Nat)(hk:key.length≤64)(hl:label.length≤4096)(hc:ctx.length≤4096)(h1:1≤n)(hn:n≤1024):PC Tryz.prog 83 [.isl .u8 key,.isl .u8 label,.isl .u8 ctx,rI n] (.tup [.isl .u8 (kdfS key label ctx n),rI 0]):=by
 have hal:=j2s n [key,label,ctx] h1 hn (fun l hl'=>by simp at hl';rcases hl' with rfl|rfl|rfl<;>omega) (by simp)
 refine q0q rfl rfl ?_;refine rQ fi83 ?_;refine q0k 0 ?_
 with_reducible refine sxE ?_
 refine q0a hal ?_;refine gQ ?_;refine q0a (z3G (key,label,ctx,(n:Int)) ⟨⟨show key.length≤1125899906842624 by omega,fun _ _=>trivial⟩,⟨show label.length≤1125899906842624 by omega,fun _ _=>trivial⟩,⟨show ctx.length≤1125899906842624 by omega,fun _ _=>trivial⟩,trivial⟩) ?_
 refine gQ ?_;refine q0a (j2m key label ctx n hk hl hc h1 hn) ?_;refine gQ ?_;trivial
abbrev rkF(key:List UInt8)(bw:Bool):SV:=.fn 192 [] [.iptr .bool bw 0,.iptr (.ptr CipT) (some (cipS key)) 0]
theorem j0u(key:List UInt8)(hk:key.length=16):CipT.ok (cipS key):=by
 have h1:fwS.length=256:=by simp [fwS]
 have h2:(invP 256).length=256:=z2a 256;have h3:=q2F key hk;unfold cipS;generalize fwS=fw at*;generalize invP 256=iv at*;generalize wordsS key=w at*;refine ⟨⟨?_,?_⟩,?_,?_⟩
 all_goals first|exact trivial|exact ⟨by assumption,fun _ _=>trivial⟩ |exact ⟨⟨by assumption,fun _ _=>trivial⟩,trivial⟩ |skip
theorem q5D(key:List UInt8)(bw:Bool)(hk:key.length=16):PC Tryz.prog 176 [.iptr CipT (cipS key) 0,rB bw] (rkF key bw):=by
 refine q0q rfl rfl ?_;refine q0V fi176 ?_;refine uQ 4 _ ?_
 with_reducible refine sxE ?_
 refine q2l 2 0 (ty:=.ptr CipT) (x:=some (cipS key)) rfl (fun y h=>by cases h;exact j0u key hk) rfl rfl ?_
 refine q2l 3 1 (ty:=.bool) (x:=bw) rfl trivial rfl rfl ?_;refine gQ ?_;trivial
def rkI(bw:Bool)(i:Nat):Nat:=if bw then 10-i else i
def rkK(key:List UInt8)(i:Nat):List UInt8:=((wordsS key).drop (i*16)).take 16
def vwR(key:List UInt8)(bw:Bool):Nat→Nat→List SV→List SObj→Prop:=fun i _ args' new=>args'= [rI (rkI bw i:Nat),.dat (.arr 16 .u8) (rkK key (rkI bw i))]∧new= []
theorem q5A(key:List UInt8)(bw:Bool)(hk:key.length=16):Iter Tryz.prog 192 [] [.iptr .bool bw 0,.iptr (.ptr CipT) (some (cipS key)) 0] 11 (vwR key bw):=by
 refine ⟨by kernel_rfl,fun l B J hJ yg=> ?_⟩
 have hwl:=q2F key hk;refine (q1z (yFG hJ) fi192 ?_).2
 letI:Ghost:=topG (yFG hJ) []
 refine uQ 600 _ ?_
 with_reducible refine sxE ?_
 refine q8U [] (fun i=>i) (fun i=>[(5,rI (i:Nat))]) 11 (fun _=>True) trivial rfl (by simp) (by simp [SV.bel]) ?_ fun i hi _=> ?_
 · with_reducible refine sxE ?_;trivial
 have hwr:=wsx i (by omega)
 by_cases hlt:i<11
 · have f1:((i:Int) <11)=True:=eq_true (by omega)
   have e1:IntKind.i64.wrap (10- (i:Int))=((10-i:Nat):Int):=by rw [wrapi (by omega)];omega
   cases bw with
   |false=>
    refine gy1 f1 ?_;refine ⟨by omega,q2d [] hJ yg hlt (fun n=>⟨_,_,⟨rfl,rfl⟩,q1f rfl⟩) fun c=> ?_⟩
    cases c
    · refine gQ ?_;exact ⟨_,_,rfl,rfl,by omega⟩
    refine gQ ?_;refine ⟨hlt,trivial,⟨[],rfl⟩,?_⟩
    with_reducible refine sx1 hwr ?_;trivial
   |true=>
    refine gy2 f1 e1 ?_;refine ⟨by omega,q2d [] hJ yg hlt (fun n=>⟨_,_,⟨rfl,rfl⟩,q1f rfl⟩) fun c=> ?_⟩
    cases c
    · refine gQ ?_;exact ⟨_,_,rfl,rfl,by omega⟩
    refine gQ ?_;refine ⟨hlt,trivial,⟨[],rfl⟩,?_⟩
    with_reducible refine sx1 hwr ?_;trivial
 obtain rfl:i=11:=by omega
 have f1:(((11:Nat):Int) <11)=False:=by decide
 refine gy1 f1 ?_;exact ⟨_,_,rfl,rfl,Ag _⟩
theorem q9g(k b:List UInt8)(hk:k.length≤70368744177664)(hb:b.length≤70368744000000):PC Tryz.prog 89 [.isl .u8 k,.isl .u8 b] (.isl .u8 (hmS k b)):=by
 have h1:=j0A k 0x36 hk;have h2:=j0A k 0x5c hk;have l1:(hkS k 0x36).length=64:=q2v _ _ _;have l2:(hkS k 0x5c).length=64:=q2v _ _ _;have hE:hmS k b=shaS (hkS k 0x5c++shaS (hkS k 0x36++b)):=rfl;change VC _ _ [_,.raw (.int .u8 54)] _ _ at h1;change VC _ _ [_,.raw (.int .u8 92)] _ _ at h2;rw [hE];generalize hkS k 0x36=k1 at*;generalize hkS k 0x5c=k2 at*;have t1:List.take 64 k1=k1:=Aa (by omega)
 have t2:List.take 64 k2=k2:=Aa (by omega)
 refine q0i rfl rfl ?_;refine rQ fi89 ?_;refine q3F h1 rfl rfl (fun h0=>by rw [h0] at l1;cases l1) ?_
 refine gy2 l1 t1 ?_;refine ⟨by omega,?_⟩
 refine q0k 1 ?_
 with_reducible refine sxE ?_
 rw [Aa (by rw [Ad];omega)]
 refine ⟨by rw [Ad];omega,by rw [Ad];omega,q0a (z6P (k1++b) (by rw [Ad];omega)) ?_⟩
 have l3:(shaS (k1++b)).length=32:=q0G _;generalize shaS (k1++b)=s1 at*;refine gy1 l3 ?_;refine j0d fun id k' hrel=> ?_;refine q9h (G:=[]) mixed (m:=7) (by kernel_rfl) ?_
 refine q9d (i:=0) (io:=⟨some 12,.mov (.tmp 0),none⟩) (by kernel_rfl) (by kernel_rfl) (fun H'=>rfl) trivial ?_
 refine j3B (i:=2) (io:=⟨some 14,.sla 32 1 (.tmp 5) none none,none⟩) (by kernel_rfl) (by kernel_rfl) rfl rfl ?_ ?_
 · decide
 have t3:List.take 32 s1=s1:=Aa (by omega)
 have l4:(k2++s1).length=96:=by rw [Ad];omega
 have t4:List.take 96 (k2++s1)=k2++s1:=Aa (by omega)
 have l5:(shaS (k2++s1)).length=32:=q0G _;have t5:List.take 32 (shaS (k2++s1))=shaS (k2++s1):=Aa (by omega)
 have h4:=z6P (k2++s1) (by omega)
 generalize shaS (k2++s1)=s2 at*;refine q5z (i:=1) (j:=5) (io:=⟨some 13,.call (.func 128) [.tmp 12,.const (.int .u8 92)],none⟩) (jo:=⟨some 6,.arr .u8 32,none⟩) (by kernel_rfl) (by kernel_rfl) (by kernel_rfl) ?_ ?_
 · refine j3p h2 rfl rfl (fun h0=>by rw [h0] at l2;cases l2) q0W ?_
   refine q5z (i:=3) (j:=5) (io:=⟨some 15,.app .u8 1 (.tmp 13) (.tmp 14),none⟩) (jo:=⟨some 6,.arr .u8 32,none⟩) (by kernel_rfl) (by kernel_rfl) (by kernel_rfl) ?_ ?_
   · simp (maxSteps:=3000000) only [Res.to,AnyK,l2,l3,t2,t3,go_sem,↓zA,↓reduceIte,↓reduceDIte] <;>try simp only [zB]
     refine ⟨q0W,?_⟩;generalize k2++s1=ks at*;refine q5z (i:=4) (j:=5) (io:=⟨some 16,.call (.func 127) [.tmp 15],none⟩) (jo:=⟨some 6,.arr .u8 32,none⟩) (by kernel_rfl) (by kernel_rfl) (by kernel_rfl) ?_ ?_
     · refine z8a 4 ?_;simp (maxSteps:=3000000) only [handC,l4,t4,go_sem,↓zA,↓reduceIte,↓reduceDIte] <;>try simp only [zB]
       refine z8Y h4 ?_;simp (maxSteps:=3000000) only [AnyK,go_sem,↓zA,↓reduceIte,↓reduceDIte] <;>try simp only [zB]
       refine ⟨q0W,?_⟩;refine q2j (l:=[(false,⟨some 6,.arr .u8 32,none⟩),(false,⟨none,.st 32 (.tmp 6) (.tmp 16),none⟩)]) (by kernel_rfl) hrel ?_
       refine gy1 l5 ?_;exact ⟨by decide,t5⟩
     simp (maxSteps:=3000000) only [Res.to,AnyK,go_sem,↓zA,↓reduceIte,↓reduceDIte] <;>try simp only [zB]
     refine ⟨q0W,?_⟩;refine q2j (l:=[(false,⟨some 16,.call (.func 127) [.tmp 15],none⟩),(false,⟨none,.st 32 (.tmp 6) (.tmp 16),none⟩)]) (by kernel_rfl) hrel ?_
     refine uQ 600 _ ?_
     with_reducible refine sxE ?_
     refine q0r 4 (by decide) ?_
     with_reducible refine sy2 l4 t4 ?_
     refine q0b h4 ?_;refine gy1 l5 ?_;exact ⟨by decide,t5⟩
   simp (maxSteps:=3000000) only [Res.to,AnyK,go_sem,↓zA,↓reduceIte,↓reduceDIte] <;>try simp only [zB]
   refine ⟨q0W,?_⟩;refine q2j (l:=[(false,⟨some 15,.app .u8 1 (.tmp 13) (.tmp 14),none⟩),(false,⟨some 16,.call (.func 127) [.tmp 15],none⟩),(false,⟨none,.st 32 (.tmp 6) (.tmp 16),none⟩)]) (by kernel_rfl) hrel ?_
   refine gy4 l2 l3 t2 t3 ?_;refine q0r 5 (by decide) ?_
   with_reducible refine sy2 l4 t4 ?_
   refine q0b h4 ?_;refine gy1 l5 ?_;exact ⟨by decide,t5⟩
 simp (maxSteps:=3000000) only [Res.to,AnyK,go_sem,↓zA,↓reduceIte,↓reduceDIte] <;>try simp only [zB]
 refine ⟨q0W,?_⟩;refine q2j (l:=[(false,⟨some 13,.call (.func 128) [.tmp 12,.const (.int .u8 92)],none⟩),(false,⟨some 15,.app .u8 1 (.tmp 13) (.tmp 14),none⟩),(false,⟨some 16,.call (.func 127) [.tmp 15],none⟩),(false,⟨none,.st 32 (.tmp 6) (.tmp 16),none⟩)]) (by kernel_rfl) hrel ?_
 refine uQ 600 _ ?_
 with_reducible refine sxE ?_
 refine z3y h2 rfl rfl (fun _ h=>by cases h) (fun h0=>by rw [h0] at l2;cases l2) ?_
 refine gy4 l2 l3 t2 t3 ?_;refine q0r 5 (by decide) ?_
 with_reducible refine sy2 l4 t4 ?_
 refine q0b h4 ?_;refine gy1 l5 ?_;exact ⟨by decide,t5⟩
theorem z5V(n:Nat):VC Tryz.prog 144 [rI n] [] (RowK .u8 (four n)):=by
 refine q8g ?_;refine rQ fi144 ?_;refine ⟨⟨q0Z _,q0Z _,q0Z _,q0Z _⟩,?_⟩;rw [byteN _ 24 (by decide),byteN _ 16 (by decide),byteN _ 8 (by decide),byteN0]
 exact q6a (h:=0) rfl rfl
theorem j2w(key label ctx:List UInt8)(n i:Nat)(hk:key.length≤70368744177664)(hl:label.length≤4096)(hc:ctx.length≤4096)(hn:n≤1024)(_hi:i≤1000000):PC Tryz.prog 125 [.isl .u8 key,.isl .u8 label,.isl .u8 ctx,rI n,rI i] (.isl .u8 (kblk key label ctx n i)):=by
 have hw8:IntKind.i64.wrap (8* (n:Int))=((8*n:Nat):Int):=by rw [wrapi (by omega)];omega
 have hE:kblk key label ctx n i=hmS key (four i++label++ [0]++ctx++four (8*n)):=rfl;have h1:=z5V i;have h2:=z5V (8*n);have l1:=q5P i;have l2:=q5P (8*n);generalize four i=f1 at*;generalize four (8*n)=f2 at*;have hne:∀ {l:List UInt8} {P:Prop},l.length=4→l= []→P:=fun h h0=>by rw [h0] at h;cases h
 have t1:List.take 4 f1=f1:=Aa (by omega)
 have t2:List.take 4 f2=f2:=Aa (by omega)
 refine q0q rfl rfl ?_;refine rQ fi125 ?_;refine q3F h1 rfl rfl (hne l1) ?_;refine gy3 l1 t1 hw8 ?_;have e3:(f1++label).length=4+label.length:=by rw [Ad,l1]
 have e4:(f1++label++ [UInt8.ofNat 0]++ctx).length=4+label.length+1+ctx.length:=by simp only [Ad,l1,AK,CN]
 refine ⟨by omega,rfl,by omega,by omega,q3F h2 rfl rfl (hne l2) ?_⟩
 rw [e3];have hE':f1++label++ [UInt8.ofNat 0]++ctx++f2=f1++label++ [0]++ctx++f2:=rfl;have e5:(f1++label++ [UInt8.ofNat 0]++ctx++f2).length=4+label.length+1+ctx.length+4:=by rw [Ad,e4,l2]
 generalize f1++label++ [UInt8.ofNat 0]++ctx=A at*;have t3:List.take (4+label.length+1+ctx.length) A=A:=Aa (by omega)
 have t4:List.take (4+label.length+1+ctx.length+4) (A++f2)=A++f2:=Aa (by omega)
 refine gy4 l2 t2 t3 e4 ?_;refine ⟨by omega,?_⟩
 refine q0k 6 ?_;simp (maxSteps:=3000000) only [t4,go_sem,↓zA,↓reduceIte,↓reduceDIte] <;>try simp only [zB]
 refine ⟨by omega,by omega,q0a (q9g key (A++f2) hk (by omega)) ?_⟩
 refine uQ 600 _ ?_
 with_reducible refine sxE ?_
 rw [hE,hE']
theorem j4n(key label ctx:List UInt8)(n:Nat)(hk:key.length≤70368744177664)(hl:label.length≤4096)(hc:ctx.length≤4096)(hn:n≤1024):PC Tryz.prog 87 [.isl .u8 key,.isl .u8 label,.isl .u8 ctx,rI n] (.isl .u8 (kdfS key label ctx n)):=by
 refine q0i rfl rfl ?_;refine rQ fi87 ?_;refine q3b 9 .u8 (fun i=>kacc key label ctx n i) (fun i=>[(10,rI ((i+1:Nat):Int))]) ((n+31) / 32) (fun _=>True) rfl (by simp) (by simp [kacc]) rfl (fun i=>rfl) ?_ fun i hi _=> ?_
 · with_reducible refine sxE ?_
   rfl
 have hl':=q4J key label ctx n i;have hs:kacc key label ctx n (i+1)=kacc key label ctx n i++kblk key label ctx n (i+1):=rfl
 by_cases h:i< (n+31) / 32
 · have f1:(((32*i:Nat):Int) < (n:Int))=True:=eq_true (by omega)
   refine gy2 f1 hl' ?_;refine q0a (j2w key label ctx n (i+1) hk hl hc hn (by omega)) ?_
   have hb:=q3K key label ctx n (i+1);generalize kblk key label ctx n (i+1)=B at*;generalize kacc key label ctx n i=A at*;have htk:List.take (32*i) A=A:=Aa (by omega)
   refine gy3 hb hl' htk ?_;refine ⟨by omega,?_⟩
   refine q1s [.dead] [] h trivial (by rw [hs];rfl) ?_
   have hwr:IntKind.i64.wrap (((i+1:Nat):Int)+1)=((i+1+1:Nat):Int):=by rw [wrapi (by omega)];omega
   rw [hs]
   with_reducible refine sy3 hwr hl' hb ?_
   rw [Ad,hl',hb]
 obtain rfl:i=(n+31) / 32:=by omega
 have f1:(((32* ((n+31) / 32):Nat):Int) < (n:Int))=False:=eq_false (by omega)
 refine gy2 f1 hl' ?_;exact ⟨by omega,by omega,by rw [Cv];rfl⟩
theorem j0i(n:Nat):PC Tryz.prog 84 [rI n] (.isl .u8 (four n)):=by
 refine q0i rfl rfl ?_;refine rQ fi84 ?_;refine ⟨⟨q0Z _,q0Z _,q0Z _,q0Z _⟩,?_⟩;rw [byteN _ 24 (by decide),byteN _ 16 (by decide),byteN _ 8 (by decide),byteN0]
 rfl
theorem j4k(ls:List (List UInt8))(hl:ls.flatten.length≤1099511627776)(hn:ls.length≤1099511627776):PE Tryz.prog 44 [.isl (.slice .u8) ls] [] (.ret (.bld 0 .u8 ls.flatten.length)) [.row .u8 ls.flatten]:=by
 refine j3Y ?_;refine rQ fi44 ?_;refine q3b 3 .u8 (fun i=>(ls.take i).flatten) (fun i=>[(8,rI i)]) ls.length (fun _=>True) rfl (by simp) (by simp) rfl (fun i=>rfl) ?_ fun i hi _=> ?_
 · with_reducible refine sxE ?_;trivial
 have hwr:=wsx i (by omega)
 have hfl:=q1k ls i
 by_cases h:i<ls.length
 · have hf1:=q3u h;have hfl1:=q1k ls (i+1);rw [hf1,Ad] at hfl1;have hfl2:(ls.take i).flatten.length+ (ls.getD i (Ty.dflt (.slice .u8))).length≤ls.flatten.length:=hfl1;refine gQ ?_;refine ⟨fun _=>⟨⟨by omega,h⟩,⟨by omega,by omega⟩,q1s [.dead] [] h trivial (by rw [hf1];rfl) ?_⟩,fun hh=>absurd h hh⟩
   with_reducible refine sx3 hwr hf1 ?_
   rfl
 obtain rfl:i=ls.length:=by omega
 rw [AE] at*;refine gQ ?_;refine ⟨fun hh=>absurd hh (by omega),fun _=> ?_⟩
 exact j4H (h:=0) rfl rfl
theorem z2E(ls:List (List UInt8))(hl:ls.flatten.length≤1099511627776)(hn:ls.length≤1099511627776):PC Tryz.prog 44 [.isl (.slice .u8) ls] (.isl .u8 ls.flatten):=by
 refine q0i rfl rfl ?_;refine rQ fi44 ?_;refine q3b 3 .u8 (fun i=>(ls.take i).flatten) (fun i=>[(8,rI i)]) ls.length (fun _=>True) rfl (by simp) (by simp) rfl (fun i=>rfl) ?_ fun i hi _=> ?_
 · with_reducible refine sxE ?_;trivial
 have hwr:=wsx i (by omega)
 have hfl:=q1k ls i
 by_cases h:i<ls.length
 · have hf1:=q3u h;have hfl1:=q1k ls (i+1);rw [hf1,Ad] at hfl1;have hfl2:(ls.take i).flatten.length+ (ls.getD i (Ty.dflt (.slice .u8))).length≤ls.flatten.length:=hfl1;refine gQ ?_;refine ⟨fun _=>⟨⟨by omega,h⟩,⟨by omega,by omega⟩,q1s [.dead] [] h trivial (by rw [hf1];rfl) ?_⟩,fun hh=>absurd h hh⟩
   with_reducible refine sx3 hwr hf1 ?_
   rfl
 obtain rfl:i=ls.length:=by omega
 rw [AE] at*;refine gQ ?_;refine ⟨fun hh=>absurd hh (by omega),fun _=> ?_⟩
 exact ⟨⟨by omega,by omega⟩,AE⟩
theorem q9u(k:List UInt8)(ps:List (List UInt8))(hk:k.length≤64)(hp:ps.flatten.length≤1099511627776)(hpl:ps.length≤1099511627776):PC Tryz.prog 139 [.isl .u8 k,.isl (.slice .u8) ps] (.isl .u8 (hmS k ps.flatten)):=by
 have hsl:=q2o k ps.flatten;refine q0i rfl rfl ?_;refine rQ fi139 ?_;refine q0a (j0t k ps hk hp hpl) ?_;refine gy1 hsl ?_;exact ⟨⟨by decide,by decide⟩,Aa (by omega)⟩
def dkS(k:KeyT.den)(u use:Nat):List UInt8:=kdfS k.2.2 (four u++ [UInt8.ofNat use]) [] k.2.2.length
theorem q5i(k:KeyT.den)(u use:Nat):(dkS k u use).length=k.2.2.length:=z3m _ _ _ _
theorem z0J(k:KeyT.den)(u:Nat)(hk:k.2.2.length≤64):PC Tryz.prog 43 [.agg (KeyT.cells k),rI u] (.fn 82 [] [.iptr KeyT k 0,.iptr (.int .i64) (u:Int) 0]):=by
 refine q0q rfl rfl ?_;refine q0V fi43 ?_;refine uQ 4 _ ?_
 with_reducible refine sxE ?_
 refine q2l 2 0 (ty:=KeyT) (x:=k) rfl ⟨trivial,trivial,⟨by omega,fun _ _=>trivial⟩⟩ rfl rfl ?_
 refine q2l 3 1 (ty:=.int .i64) (x:=(u:Int)) rfl trivial rfl rfl ?_;refine gQ ?_;trivial
theorem q4D(k:KeyT.den)(u use:Nat)(hk:k.2.2.length≤64)(h1:1≤k.2.2.length)(hu:use<256):PC Tryz.prog 82 [.raw (.int .u8 use),.iptr KeyT k 0,.iptr (.int .i64) (u:Int) 0] (.isl .u8 (dkS k u use)):=by
 obtain ⟨p,v,b⟩:=k;have hbl:b.length≤64:=hk;have hb1:1≤b.length:=h1;refine q0q rfl rfl ?_;refine rQ fi82 ?_;refine q0K (j0i u) ?_;refine gQ ?_;have hj:=z2E [four u,[UInt8.ofNat use]] (by simp [four]) (by simp)
 rw [show [four u,[UInt8.ofNat use]].flatten=four u++ [UInt8.ofNat use] by simp] at hj
 refine ⟨by rw [BP];omega,?_⟩
 refine q0r 0 (by decide) ?_
 with_reducible refine sxE ?_
 refine q0b hj ?_;refine uQ 600 _ ?_
 with_reducible refine sxE ?_
 refine q0b ((j5p b (four u++ [UInt8.ofNat use]) [] b.length hbl (by simp [four]) (by simp) hb1 (by omega)).arg ?_) ?_
 · with_reducible refine sxE ?_;trivial
 refine uQ 600 _ ?_
 with_reducible refine sxE ?_
 rfl
def ksB(key conf text:List UInt8)(i:Nat):UInt8:=text.getD i 0^^^ (hmS key (conf++four (i / 32+1))).getD (i%32) 0
def ksP(key conf text:List UInt8)(n:Nat):List UInt8:=(List.range text.length).map fun i=>if i<n then ksB key conf text i else text.getD i 0
def ksS(key conf text:List UInt8):List UInt8:=(List.range text.length).map (ksB key conf text)
theorem z6q(key conf text:List UInt8)(n:Nat):(ksP key conf text n).length=text.length:=by simp [ksP]
theorem q2Z(key conf text:List UInt8):(ksS key conf text).length=text.length:=by simp [ksS]
theorem z9d(key conf text:List UInt8):ksP key conf text 0=text:=by
 apply As
 · simp [ksP]
 intro j h1 h2;simp [ksP,Ab,h2]
theorem z1h(key conf text:List UInt8){n:Nat}(h:text.length≤n):ksP key conf text n=ksS key conf text:=by
 apply As
 · simp [ksP,ksS]
 intro j h1 h2;simp [ksP] at h1;simp only [ksP,ksS,AA,Ax];rw [if_pos (by omega)]
theorem j2S(key conf text:List UInt8){i:Nat}(hi:i<text.length):(ksP key conf text i).getD i 0=text.getD i 0:=by
 simp [ksP,Ab,hi]
theorem j1Y(key conf text:List UInt8){i:Nat}(hi:i<text.length):(ksP key conf text i).set i (ksB key conf text i)=ksP key conf text (i+1):=by
 apply As
 · simp [ksP]
 intro j h1 h2;rw [A7];simp only [ksP,AA,Ax];split
 · subst_vars;rw [if_pos (by omega)]
 rename_i hne
 by_cases hj:j<i
 · rw [if_pos hj,if_pos (by omega)]
 rw [if_neg hj,if_neg (by omega)]
theorem z0P(key conf text:List UInt8){i:Nat}(hi:i<text.length):(ksS key conf text).getD i 0=ksB key conf text i:=by
 simp [ksS,Ab,hi]
theorem j0P(key conf text:List UInt8):ksS key conf (ksS key conf text)=text:=by
 apply As
 · rw [q2Z,q2Z]
 intro j h1 h2;have e:(ksS key conf (ksS key conf text))[j]=ksB key conf (ksS key conf text) j:=by
  rw [←z0P key conf (ksS key conf text) (by rw [q2Z];exact h2),Ab,Ae h1];rfl
 rw [e];unfold ksB;rw [z0P key conf text h2];unfold ksB;rw [UInt8.xor_assoc,UInt8.xor_self,UInt8.xor_zero,Ab,Ae h2];rfl
theorem q7z(key conf text:List UInt8)(hk:key.length≤64)(hc:conf.length≤4096)(ht:text.length≤1048576):PC Tryz.prog 140 [.isl .u8 key,.isl .u8 conf,.isl .u8 text] (.isl .u8 (ksS key conf text)):=by
 have hjo:=j4k [text] (by simp;omega) (by simp)
 rw [BA] at hjo;refine q0i rfl rfl ?_;refine rQ fi140 ?_;refine q0k 0 ?_
 with_reducible refine sxE ?_
 refine eQ [] (hjo) ?_;refine q1t (ι:=Nat) (fun a=>[(8,.raw (.int .i64 ((32*a:Nat):Int)))]) (fun a=>[.dead,.row .u8 (ksP key conf text (32*a))]) (fun a=>(text.length+31) / 32-a) (fun a=>a≤(text.length+31) / 32) 0 (Aj _) 2 (by rw [z9d]) (by decide) (fun _=>rfl) (fun _=>rfl) (fun _=>rfl) ?_ ?_
 · with_reducible refine sxE ?_;trivial
 intro a ha;have hpl:=z6q key conf text (32*a);have hw32:IntKind.i64.wrap (((32*a:Nat):Int)+32)=((32* (a+1):Nat):Int):=by rw [wrapi (by omega)];omega
 by_cases hlt:32*a<text.length
 · have hq:((32*a:Nat):Int).tdiv 32=(a:Int):=by rw [Bc (by omega)];omega
   have hqw:IntKind.i64.wrap (a:Int)=(a:Int):=by rw [wrapi (by omega)]
   have hq1:IntKind.i64.wrap ((a:Int)+1)=((a+1:Nat):Int):=q2m (by omega)
   have hlt':(((32*a:Nat):Int) < (text.length:Int))=True:=eq_true (by omega)
   refine gy4 hlt' hq hqw hq1 ?_;have hke:=q9u key [conf,four (a+1)] hk (by simp [four];omega) (by simp)
   rw [show [conf,four (a+1)].flatten=conf++four (a+1) by simp] at hke
   have hkl:=q2o key (conf++four (a+1));refine ⟨by decide,q0a (j0i (a+1)) ?_⟩
   refine gQ ?_;refine q0k 2 ?_
   with_reducible refine sxE ?_
   refine q0a hke ?_;obtain ⟨E,hE⟩:∃E,E=min (32* (a+1)) text.length:=⟨_,rfl⟩;have hmin:mxV false ((32* (a+1):Nat):Int) (text.length:Int)=(E:Int):=by
    unfold mxV;simp only [A8,if_false];split<;>omega
   refine gy2 hw32 hmin ?_;refine ⟨⟨by omega,by omega,by omega⟩,?_⟩
   refine q0f (ι:=Nat) (fun j=>[(37,rI j)]) (fun j=>[.dead,.row .u8 (ksP key conf text (32*a+j)),.dead]) (fun j=>(E-32*a) -j) (fun j=>j≤E-32*a) 0 (Aj _) rfl ?_ ?_
   · with_reducible refine sxE ?_;trivial
   intro j hj;have hjl:=z6q key conf text (32*a+j);have hjw:IntKind.i64.wrap ((j:Int)+1)=((j+1:Nat):Int):=q2m (by omega)
   have hjs:IntKind.i64.wrap (((32*a:Nat):Int)+ (j:Int))=((32*a+j:Nat):Int):=by rw [wrapi (by omega)];omega
   by_cases hjl2:j<E-32*a
   · have hc1:((j:Int) < ((E-32*a:Nat):Int))=True:=eq_true (by omega)
     have hpg:=j2S key conf text (i:=32*a+j) (by omega)
     have hx8:=xor8 (text.getD (32*a+j) 0) ((hmS key (conf++four (a+1))).getD j 0);have hps:=j1Y key conf text (i:=32*a+j) (by omega)
     have hkb:ksB key conf text (32*a+j)=text.getD (32*a+j) 0^^^ (hmS key (conf++four (a+1))).getD j 0:=by
      unfold ksB;rw [show (32*a+j) / 32=a by omega,show (32*a+j)%32=j by omega]
     rw [hkb] at hps;refine gyd7 hc1 hjs hjl hkl hpg hx8 Ac ?_;refine ⟨⟨by omega,by omega⟩,by omega,⟨by omega,by omega⟩,⟨by omega,by omega⟩,⟨by omega,by rw [UInt8.ofNat_toNat]⟩,j+1,(show j+1≤E-32*a by omega),by dsimp only;omega,?_,?_⟩
     · rw [AC,hps];rfl
     with_reducible refine sx1 hjw ?_;trivial
   obtain rfl:j=E-32*a:=by omega
   have hc1:((((E-32*a:Nat):Int)) < ((E-32*a:Nat):Int))=False:=eq_false (by omega)
   refine gy2 hc1 hw32 ?_;refine ⟨a+1,(show a+1≤(text.length+31) / 32 by omega),by dsimp only;omega,⟨[.dead],?_⟩,?_⟩
   · have e:ksP key conf text (32*a+ (E-32*a))=ksP key conf text (32* (a+1)):=by
      rcases Nat.le_total (32* (a+1)) text.length with h|h
      · rw [show 32*a+ (E-32*a)=32* (a+1) by omega]
      rw [z1h key conf text (by omega),z1h key conf text h]
     rw [e];rfl
   with_reducible refine sxE ?_;trivial
 have hlt':(((32*a:Nat):Int) < (text.length:Int))=False:=eq_false (by omega)
 refine gy1 hlt' ?_;rw [z1h key conf text (by omega)]
 have hsl:=q2Z key conf text;exact ⟨⟨by omega,by omega⟩,Aa (by omega)⟩
def uOk(k:Key)(u:Int):Bool:=vKey k&& (decide (1≤u) && decide (u≤1023))
theorem z3l(k:Key)(u:Int)(ho:KeyT.ok k):PC Tryz.prog 42 [.agg (KeyT.cells k),rI u] (.tup [.agg (rawL (if uOk k u=true then kindOf k.1 else kindZ)),rI (if uOk k u=true then 0 else 2)]):=by
 have hf:=j0E k;obtain ⟨p,v,b⟩:=k;refine q0q rfl (by simp [SV.clean,SV.cleanL,q4b]) ?_
 change PC _ _ _ (.tup [.agg (rawL (kindOf p)),rB (vKey (p,v,b))]) at hf;unfold uOk;show VC _ _ _ _ (PK (.tup [.agg (rawL (if (vKey (p,v,b) && (decide (1≤u) && decide (u≤1023)))=true then kindOf p else kindZ)),_]));generalize vKey (p,v,b)=vb at*;have h3:=q5C p;generalize kindOf p=kv at*;rcases h3 with rfl|rfl|rfl
 all_goals
  cases vb
  · refine rQ fi42 ?_;refine q0a hf ?_;refine uQ 600 _ ?_;simp (maxSteps:=3000000) only [kind1,kind2,kindZ,go_sem,↓zA,↓reduceIte,↓reduceDIte] <;>try simp only [zB]
  by_cases h1:1≤u
  · have h1':(u<1)=False:=eq_false (by omega)
    by_cases h2:u≤1023
    · have h2':(1023<u)=False:=eq_false (by omega)
      refine rQ fi42 ?_;refine q0a hf ?_;refine uQ 600 _ ?_;simp (maxSteps:=3000000) only [kind1,kind2,kindZ,h1,h2,h1',h2',go_sem,↓zA,↓reduceIte,↓reduceDIte] <;>try simp only [zB]
    have h2':(1023<u)=True:=eq_true (by omega)
    refine rQ fi42 ?_;refine q0a hf ?_;refine uQ 600 _ ?_;simp (maxSteps:=3000000) only [kind1,kind2,kindZ,h1,h2,h1',h2',go_sem,↓zA,↓reduceIte,↓reduceDIte] <;>try simp only [zB]
  have h1':(u<1)=True:=eq_true (by omega)
  refine rQ fi42 ?_;refine q0a hf ?_;refine uQ 600 _ ?_;simp (maxSteps:=3000000) only [kind1,kind2,kindZ,h1,h1',go_sem,↓zA,↓reduceIte,↓reduceDIte] <;>try simp only [zB]
theorem z4V(key conf plain:List UInt8)(hk:key.length≤64)(hc:conf.length≤4096)(ht:plain.length≤1048576):PC Tryz.prog 117 [.isl .u8 key,.isl .u8 conf,.isl .u8 plain] (.isl .u8 (conf++ksS key conf plain)):=by
 have hsl:=q2Z key conf plain;have hj:=z2E [conf,ksS key conf plain] (by simp;omega) (by simp)
 rw [show [conf,ksS key conf plain].flatten=conf++ksS key conf plain by simp] at hj
 refine q0q rfl rfl ?_;refine rQ fi117 ?_;refine q0a (q7z key conf plain hk hc ht) ?_;refine gQ ?_;refine q0k 0 ?_
 with_reducible refine sxE ?_
 refine q0a hj ?_;refine gQ ?_;trivial
theorem z0x(key cipher:List UInt8)(hk:key.length≤64)(hc:cipher.length≤1048576):PC Tryz.prog 119 [.isl .u8 key,.isl .u8 cipher] (.isl .u8 (hmS key cipher)):=by
 have hj:=q9u key [cipher] hk (by simp;omega) (by simp)
 rw [BA] at hj;refine q0q rfl rfl ?_;refine rQ fi119 ?_;refine q0k 0 ?_
 with_reducible refine sxE ?_
 refine q0a hj ?_;refine gQ ?_;trivial
theorem z5C(key cipher:List UInt8)(hk:key.length≤64)(h1:16≤cipher.length)(hc:cipher.length≤1048576):PC Tryz.prog 118 [.isl .u8 key,.isl .u8 cipher] (.isl .u8 (ksS key (cipher.take 16) (cipher.drop 16))):=by
 refine q0q rfl rfl ?_;refine rQ fi118 ?_;rw [AE];refine ⟨by omega,⟨by omega,by omega⟩,q0b (q7z key (cipher.take 16) (cipher.drop 16) hk (by rw [Ak];omega) (by rw [Al];omega)) ?_⟩
 refine gQ ?_;trivial
def ciS2(k:Key)(u:Nat)(conf plain:List UInt8):List UInt8:=conf++ksS (dkS k u 170) conf plain
def seS2(k:Key)(u:Nat)(conf plain:List UInt8):List UInt8:=ciS2 k u conf plain++hmS (dkS k u 85) (ciS2 k u conf plain)
end Go.Proofs.YtikapabgggphpaaGreatDoor
