/- Derivation: contracts: numbers, what is allowed, a block. -/
import Derived.Test.YtikapabgggphpaaGreatDoorS24
set_option linter.all false
namespace Go.Proofs.YtikapabgggphpaaGreatDoor
open Go Go.Sx Go.Proofs
set_option maxRecDepth 100000
set_option maxHeartbeats 40000000
def four(n:Nat):List UInt8:=[UInt8.ofNat (n / 2^ 24%256),UInt8.ofNat (n / 2^ 16%256),UInt8.ofNat (n / 2^ 8%256),UInt8.ofNat (n / 2^ 0%256)]
theorem q5Y(n:Nat):(four n).length=4:=rfl
theorem fdivN(n m:Nat)(hm:m≤64):((n:Int).fdiv (2^ min m 64))=((n / 2^ m:Nat):Int):=by
 rw [Ba hm,AV _ (by exact_mod_cast Ai (2^ m))]
 simp
theorem byteN(n m:Nat)(hm:m≤64):UInt8.ofNat (IntKind.u8.wrap ((n:Int).fdiv (2^ min m 64))).toNat=UInt8.ofNat (n / 2^ m%256):=by
 rw [fdivN n m hm];generalize n / 2^ m=m;rw [u8wrapR];congr 1
theorem byteN0(n:Nat):UInt8.ofNat (IntKind.u8.wrap (n:Int)).toNat=UInt8.ofNat (n / 2^ 0%256):=by
 rw [Nat.pow_zero,Nat.div_one,u8wrapR];congr 1
theorem j0d(n:Nat):PC Tryz.prog 143 [rI n] (.isl .u8 (four n)):=by
 refine q0i rfl rfl ?_;refine rQ fi143 ?_;refine ⟨⟨q0Y _,q0Y _,q0Y _,q0Y _⟩,?_⟩;rw [byteN _ 24 (by decide),byteN _ 16 (by decide),byteN _ 8 (by decide),byteN0]
 rfl
theorem j1I(n:Nat)(ls:List (List UInt8))(h1:1≤n)(h2:n≤1024)(hl:∀l∈ls,l.length≤4096)(hn:ls.length≤100):PC Tryz.prog 120 [rI n,.isl (.slice .u8) ls] (rB true):=by
 refine q0p rfl rfl ?_;refine rQ fi120 ?_;refine q0d (ι:=Nat) (fun i=>[(9,rI i)]) (fun i=>[]) (fun i=>ls.length-i) (fun i=>i≤ls.length) 0 (Ai _) rfl ?_ ?_
 · with_reducible refine sxE ?_;trivial
 intro i hi;have hwr:=wsx i (by omega)
 by_cases h:i<ls.length
 · have hli:(ls.getD i []).length≤4096:=by
    rw [Aa,Ae h];exact hl _ (Bq _)
   have hli':(4096< (((ls.getD i (Ty.dflt (.slice .u8))).length:Nat):Int))=False:=eq_false (by show ¬(4096< (((ls.getD i []).length:Nat):Int));omega)
   refine gy1 hli' ?_;refine ⟨fun _=>⟨⟨by omega,h⟩,i+1,h,by dsimp only;omega,rfl,?_⟩,fun hh=>absurd h hh⟩
   with_reducible refine sx1 hwr ?_;trivial
 obtain rfl:i=ls.length:=by omega
 refine gQ ?_;exact ⟨fun hh=>absurd hh (by omega),fun _=>⟨fun _=>by omega,fun hh=>absurd hh (by omega)⟩⟩
abbrev derT:Ty:=.prod (.slice .u8) (.prod (.slice .u8) (.prod (.slice .u8) (.int .i64)))
def kblk(key label ctx:List UInt8)(n i:Nat):List UInt8:=hmS key (four i++label++ [0]++ctx++four (8*n))
theorem q3T(key label ctx:List UInt8)(n i:Nat):(kblk key label ctx n i).length=32:=q2k _ _
theorem z7Z(key label ctx:List UInt8)(n i:Nat)(hk:key.length≤64)(hl:label.length≤4096)(hc:ctx.length≤4096)(hn:n≤1024)(hi:i≤1000000):PC Tryz.prog 123 [.agg [.isl .u8 key,.isl .u8 label,.isl .u8 ctx,rI n],rI i] (.dat (.arr 32 .u8) (kblk key label ctx n i)):=by
 have hw8:IntKind.i64.wrap (8* (n:Int))=((8*n:Nat):Int):=by rw [wrapi (by omega)];omega
 refine q0p rfl rfl ?_;refine ry1 fi123 hw8 ?_;refine q0U (j0d i) ?_;refine gQ ?_;refine q0U (j0d (8*n)) ?_;refine gQ ?_;have hfl:[four i,label,[UInt8.ofNat 0],ctx,four (8*n)].flatten=four i++label++ [0]++ctx++four (8*n):=by simp
 have hfn:[four i,label,[UInt8.ofNat 0],ctx,four (8*n)].flatten.length≤1099511627776:=by
  rw [hfl];simp only [Ad,q5Y,AM,CL];omega
 have hm:=j0D key [four i,label,[UInt8.ofNat 0],ctx,four (8*n)] hk hfn (by simp)
 rw [hfl] at hm;have hkl:=q3T key label ctx n i;change PC _ _ _ (.tup [.dat (.arr 32 .u8) (kblk key label ctx n i),_]) at hm;generalize kblk key label ctx n i=kb at*;refine ⟨by decide,q0U hm ?_⟩
 have htk:List.take 32 kb=kb:=Ab (by omega)
 refine gy2 hkl htk ?_;trivial
set_option maxHeartbeats 4000000
def allN(n:Nat)(q:Nat→Bool):Bool:=(List.range n).all q
theorem z2y{n:Nat}{q:Nat→Bool}:allN n q=true ↔ ∀j,j<n→q j=true:=by simp [allN]
theorem q1Q{n i:Nat}{q:Nat→Bool}(h:i<n)(hq:q i=false):allN n q=false:=by
 rw [Bool.eq_false_iff];exact fun ha=>by rw [z2y.1 ha i h] at hq;cases hq
theorem q2p{n:Nat}{q:Nat→Bool}(h:∀j,j<n→q j=true):allN n q=true:=z2y.2 h
@[go_sem] def fnV(f:Nat):Value:=.func (.func f) #[] #[]
def name1:ByteArray:=⟨#[97,101,115,49,50,56,45,99,116,115,45,104,109,97,99,45,115,104,97,50,53,54,45,49,50,56]⟩
def name2:ByteArray:=⟨#[115,116,114,101,97,109,45,104,109,97,99,45,115,104,97,50,53,54,45,50,53,54]⟩
def kind1:List Value:=[.string name1,.int .i64 16,.int .i64 16,.int .i64 16,.int .i64 16,fnV 114,fnV 115,fnV 116]
attribute [go_sem] kind1
def kind2:List Value:=[.string name2,.int .i64 32,.int .i64 16,.int .i64 32,.int .i64 32,fnV 117,fnV 118,fnV 119]
attribute [go_sem] kind2
abbrev kindsM:SV:=.imap (some .i64) [.int .i64 1,.int .i64 2] [.agg kind1.toArray,.agg kind2.toArray]

theorem j1T:PC Tryz.prog 81 [] kindsM:=by
 refine q0p rfl rfl (j2z ?_);refine rQ fi81 ?_;exact ⟨_,_,_,[],rfl,rfl⟩

def keyLen(p:Int):Int:=if p=1 then 16 else if p=2 then 32 else 0
def kindZ:List Value:=[.string ⟨#[]⟩,.int .i64 0,.int .i64 0,.int .i64 0,.int .i64 0,.nilFunc,.nilFunc,.nilFunc]
attribute [go_sem] kindZ
def kindOf(p:Int):List Value:=if p=1 then kind1 else if p=2 then kind2 else kindZ
def vKey(k:Key):Bool:=decide (keyLen k.1≠0) && (decide ((k.2.2.length:Int)=keyLen k.1) && (decide (0≤k.2.1) && decide (k.2.1≤65535)))
theorem j0i(k:Key):PC Tryz.prog 41 [.agg (KeyT.cells k)] (.tup [.agg (rawL (kindOf k.1)),rB (vKey k)]):=by
 obtain ⟨p,v,b⟩:=k;refine q0p rfl (by simp [SV.clean,SV.cleanL,q4c]) ?_
 refine rQ fi41 ?_;refine q0U j1T ?_;by_cases h1:p=1
 · subst h1;refine uQ 600 _ ?_;simp (maxSteps:=3000000) only [kind1,kindOf,vKey,keyLen,go_sem,↓zA,↓reduceIte,↓reduceDIte] <;>try simp only [zB]
   grind
 by_cases h2:p=2
 · subst h2;refine uQ 600 _ ?_;simp (maxSteps:=3000000) only [kind2,kindOf,vKey,keyLen,go_sem,↓zA,↓reduceIte,↓reduceDIte] <;>try simp only [zB]
   grind
 refine uQ 600 _ ?_;simp (maxSteps:=3000000) only [h1,h2,kindOf,kindZ,vKey,keyLen,go_sem,↓zA,↓reduceIte,↓reduceDIte] <;>try simp only [zB]
 grind
def dec:Bool→List UInt8→List UInt8→List (List UInt8)
 |_,cur,[]=>[cur]
 |true,cur,c :: r=>dec false (cur++ [c]) r
 |false,cur,c :: r=>if c=92 then dec true cur r else if c=47 then cur :: dec false [] r else dec false (cur++ [c]) r
theorem q5I(p:Int):kindOf p=kind1∨kindOf p=kind2∨kindOf p=kindZ:=by
 unfold kindOf;split
 · exact .inl rfl
 split
 · exact .inr (.inl rfl)
 exact .inr (.inr rfl)
theorem q1X(l:List UInt8)(hl:l.length≤140737488355328):PC Tryz.prog 63 [.isl .u8 l] (.isl .u8 l):=by
 refine q0i rfl rfl ?_;refine rQ fi63 ?_;intro b hb;refine ⟨hb,fun h=>⟨⟨by omega,by omega⟩,⟨by omega,by omega⟩,Ab (by omega)⟩⟩
set_option maxHeartbeats 40000000
theorem z4x(x:derT.den)(hok:derT.ok x):PC Tryz.prog 122 [.fn 123 [.agg (derT.cells x)] []] (.fn 141 [] [.iptr (.clo 123 derT) x 0]):=by
 refine q0p rfl rfl ?_;refine q0Z fi122 ?_;refine uQ 3 _ ?_;with_reducible refine sxE ?_
 refine q2l 1 0 (ty:=.clo 123 derT) (x:=x) rfl hok rfl rfl ?_;refine gQ ?_;trivial
def vwK(key label ctx:List UInt8)(n:Nat):Nat→Nat→List SV→List SObj→Prop:=fun i _ args' new=>args'= [rI ((i+1:Nat):Int),.isl .u8 (kblk key label ctx n (i+1))]∧new= []
theorem z2g(key label ctx:List UInt8)(n N:Nat)(hk:key.length≤64)(hl:label.length≤4096)(hc:ctx.length≤4096)(hn:n≤1024)(hN:N≤1000):IterI True Tryz.prog 141 [] [.iptr (.clo 123 derT) (key,label,ctx,(n:Int)) 0] N (vwK key label ctx n):=by
 refine ⟨by kernel_rfl,fun l B J hJ yg hno=> ?_⟩
 refine (q1z (yFG hJ) fi141 ?_).2
 letI:Ghost:=topG (yFG hJ) []
 refine gQ ?_;refine q8t [] (fun i=>i) (fun i=>[(3,rI ((i+1:Nat):Int))]) N (fun _=>True) trivial rfl (by simp) (by simp [SV.bel]) ?_ fun i hi _=> ?_
 · with_reducible refine sxE ?_
   rfl
 by_cases hlt:i<N
 · have hwr:IntKind.i64.wrap (((i+1:Nat):Int)+1)=((i+1+1:Nat):Int):=q2T (by omega)
   refine gQ ?_;refine q0a (z7Z key label ctx n (i+1) hk hl hc hn (by omega)) ?_
   have hbl:=q3T key label ctx n (i+1);generalize hb:kblk key label ctx n (i+1)=b at*;refine uQ 8 _ ?_;with_reducible refine sx1 hbl ?_
   refine ⟨⟨by decide,by decide⟩,?_⟩
   refine q0X 1 rfl rfl (by rw [hbl];decide) ?_ ?_ ?_
   · with_reducible refine sxE ?_;trivial
   · with_reducible refine sxE ?_
     omega
   with_reducible refine sxE ?_
   have htk:List.take 32 (List.drop 0 b)=b:=by rw [Az];exact Ab (by omega)
   refine gy1 htk ?_;refine q1W [.dead] hJ yg hlt (fun n=>⟨_,_,⟨by rw [hb,Ab (show b.length≤32 by omega)],rfl⟩,q1e rfl⟩) fun c=> ?_
   cases c
   · refine gQ ?_;exact ⟨_,_,rfl,rfl,by omega⟩
   refine gQ ?_;refine ⟨hlt,trivial,⟨[_],rfl⟩,?_⟩;with_reducible refine sx1 hwr ?_;trivial
 obtain rfl:i=N:=by omega
 exact z9A hJ (hno trivial)
def kacc(key label ctx:List UInt8)(n:Nat):Nat→List UInt8
 |0=>[]
 |i+1=>kacc key label ctx n i++kblk key label ctx n (i+1)
theorem q4N(key label ctx:List UInt8)(n:Nat):∀i,(kacc key label ctx n i).length=32*i
 |0=>rfl
 |i+1=>by rw [kacc,Ad,q4N key label ctx n i,q3T];omega
def kdfS(key label ctx:List UInt8)(n:Nat):List UInt8:=(kacc key label ctx n ((n+31) / 32)).take n
theorem z3r(key label ctx:List UInt8)(n:Nat):(kdfS key label ctx n).length=n:=by
 unfold kdfS;rw [Aj,q4N];omega
def frC(n i:Nat)(G:List SObj)(acc:List UInt8):List SObj:=.cells 3 [rI n] :: .cells 22 [.bld (G.length+2) .u8 (32*i)] :: (G++ [.row .u8 acc])
def frH(key label ctx:List UInt8)(n:Nat)(i:Nat)(H':List SObj):Prop:=i< (n+31) / 32∧∃G,(∃g,G=List.replicate g SObj.dead)∧H'=frC n i G (kacc key label ctx n i)
def frX(key label ctx:List UInt8)(n:Nat)(i:Nat)(ex:Ex)(H':List SObj):Prop:=ex= .exit 0∧i+1=(n+31) / 32∧∃G,(∃g,G=List.replicate g SObj.dead)∧H'=frC n (i+1) G (kacc key label ctx n (i+1))
theorem q6n{h:Nat}{t:Ty}{xs:List t.den}{l:List SObj}:∀g,frzObH h t xs l→frzObH h t xs (List.replicate g SObj.dead++l)
 |0,hl=>hl
 |g+1,hl=>⟨trivial,q6n g hl⟩
theorem j3s(key label ctx:List UInt8)(n:Nat)(hk:key.length≤64)(hl:label.length≤4096)(hc:ctx.length≤4096)(h1:1≤n)(hn:n≤1024):PC Tryz.prog 121 [rI n,.fn 141 [] [.iptr (.clo 123 derT) (key,label,ctx,(n:Int)) 0]] (.isl .u8 (kdfS key label ctx n)):=by
 refine q0p rfl rfl (q4q (q1z noFG fi121 ?_))
 letI:Ghost:=topG noFG []
 refine gQ ?_;refine q5u 1 0 .u8 rfl rfl rfl ?_;have hN:(n+31) / 32≤1000:=by omega
 refine j0e (inf:=True) (frH key label ctx n) (frX key label ctx n) rfl rfl rfl (z2g key label ctx n ((n+31) / 32) hk hl hc hn hN) (fun _ Hn h=>absurd h.1 (A5 _)) (fun i n args' new h=>by rw [h.1];rfl) ⟨by omega,[],⟨0,rfl⟩,rfl⟩ rfl ?_ ?_ ?_
 · rintro i _ args' new hi ⟨hlt,G,⟨g,hg⟩,rfl⟩ ⟨rfl,rfl⟩ L1 L2
   letI:Ghost:=pinG noFG L1
   rw [Ah];have hal:=q4N key label ctx n i;have hbl:=q3T key label ctx n (i+1);have hac:kacc key label ctx n i++kblk key label ctx n (i+1)=kacc key label ctx n (i+1):=rfl;generalize hka:kacc key label ctx n i=a at*;generalize hkb:kblk key label ctx n (i+1)=b at*;unfold frC;refine uQ 600 _ ?_;simp only [putL,BD];with_reducible refine sxaE ?_
   letI:Ghost:=pinG noFG L2
   refine gya2 hal hbl ?_;refine ⟨⟨by omega,by omega⟩,fun h=>⟨rfl,by omega,G++ [.dead],⟨g+1,by rw [hg,BT]⟩,?_⟩,fun h=>⟨by omega,G++ [.dead],⟨g+1,by rw [hg,BT]⟩,?_⟩⟩
   · rw [←hac];simp [frC,CO]
   rw [←hac];simp [frC,CO]
 · rintro D _ ⟨h,_⟩;exact absurd h (A5 _)
 rintro D i ex _ hi ⟨rfl,hiN,G,⟨g,hg⟩,rfl⟩;refine ⟨_,rfl,?_⟩;unfold frC
 letI:Ghost:=topG noFG [D]
 have hal:=q4N key label ctx n (i+1);have hke:List.take n (kacc key label ctx n (i+1))=kdfS key label ctx n:=by rw [hiN];rfl
 generalize kacc key label ctx n (i+1)=a at*;refine uQ 5 _ ?_;with_reducible refine sxaE ?_
 refine ⟨⟨by omega,by omega⟩,?_⟩
 refine q0X (G.length+2) (ty:=.u8) (xs:=a) rfl (by simp) (by omega) ?_ ?_ ?_
 · with_reducible refine sxaE ?_
   refine ⟨by omega,?_⟩
   rw [hg];exact q6n g ⟨trivial,trivial⟩
 · with_reducible refine sxaE ?_
   exact ⟨by omega,by omega⟩
 with_reducible refine sxaE ?_
 rw [Cu,hke];have hkl:(kdfS key label ctx n).length=n:=z3r _ _ _ _;refine aQ ?_;refine q0a (q1X (kdfS key label ctx n) (by omega)) ?_
 refine aQ ?_;trivial
theorem j5e(key label ctx:List UInt8)(n:Nat)(hk:key.length≤64)(hl:label.length≤4096)(hc:ctx.length≤4096)(h1:1≤n)(hn:n≤1024):PC Tryz.prog 83 [.isl .u8 key,.isl .u8 label,.isl .u8 ctx,rI n] (.tup [.isl .u8 (kdfS key label ctx n),rI 0]):=by
 have hal:=j1I n [key,label,ctx] h1 hn (fun l hl'=>by simp at hl';rcases hl' with rfl|rfl|rfl<;>omega) (by simp)
 refine q0p rfl rfl ?_;refine rQ fi83 ?_;refine q0q 0 ?_;with_reducible refine sxE ?_
 refine cQ hal ?_;refine cQ (z4x (key,label,ctx,(n:Int)) ⟨⟨show key.length≤1125899906842624 by omega,fun _ _=>trivial⟩,⟨show label.length≤1125899906842624 by omega,fun _ _=>trivial⟩,⟨show ctx.length≤1125899906842624 by omega,fun _ _=>trivial⟩,trivial⟩) ?_
 refine cQ (j3s key label ctx n hk hl hc h1 hn) ?_;trivial
abbrev rkF(key:List UInt8)(bw:Bool):SV:=.fn 192 [] [.iptr .bool bw 0,.iptr (.ptr CipT) (some (cipS key)) 0]
theorem j0t(key:List UInt8)(hk:key.length=16):CipT.ok (cipS key):=by
 have h1:fwS.length=256:=by simp [fwS]
 have h2:(invP 256).length=256:=q8T 256;have h3:=q2Q key hk;unfold cipS;generalize fwS=fw at*;generalize invP 256=iv at*;generalize wordsS key=w at*;refine ⟨⟨?_,?_⟩,?_,?_⟩;all_goals first|exact trivial|exact ⟨by assumption,fun _ _=>trivial⟩ |exact ⟨⟨by assumption,fun _ _=>trivial⟩,trivial⟩ |skip
theorem q5G(key:List UInt8)(bw:Bool)(hk:key.length=16):PC Tryz.prog 176 [.iptr CipT (cipS key) 0,rB bw] (rkF key bw):=by
 refine q0p rfl rfl ?_;refine q0Z fi176 ?_;refine uQ 4 _ ?_;with_reducible refine sxE ?_
 refine q2l 2 0 (ty:=.ptr CipT) (x:=some (cipS key)) rfl (fun y h=>by cases h;exact j0t key hk) rfl rfl ?_
 refine q2l 3 1 (ty:=.bool) (x:=bw) rfl trivial rfl rfl ?_;refine gQ ?_;trivial
def rkI(bw:Bool)(i:Nat):Nat:=if bw then 10-i else i
def rkK(key:List UInt8)(i:Nat):List UInt8:=((wordsS key).drop (i*16)).take 16
def vwR(key:List UInt8)(bw:Bool):Nat→Nat→List SV→List SObj→Prop:=fun i _ args' new=>args'= [rI (rkI bw i:Nat),.dat (.arr 16 .u8) (rkK key (rkI bw i))]∧new= []
theorem q5B(key:List UInt8)(bw:Bool)(hk:key.length=16):Iter Tryz.prog 192 [] [.iptr .bool bw 0,.iptr (.ptr CipT) (some (cipS key)) 0] 11 (vwR key bw):=by
 refine ⟨by kernel_rfl,fun l B J hJ yg=> ?_⟩
 have hwl:=q2Q key hk;refine (q1z (yFG hJ) fi192 ?_).2
 letI:Ghost:=topG (yFG hJ) []
 refine gQ ?_;refine q8t [] (fun i=>i) (fun i=>[(5,rI (i:Nat))]) 11 (fun _=>True) trivial rfl (by simp) (by simp [SV.bel]) ?_ fun i hi _=> ?_
 · with_reducible refine sxE ?_;trivial
 have hwr:=wsx i (by omega)
 by_cases hlt:i<11
 · have f1:((i:Int) <11)=True:=eq_true (by omega)
   have e1:IntKind.i64.wrap (10- (i:Int))=((10-i:Nat):Int):=by rw [wrapi (by omega)];omega
   cases bw with
   |false=>
    refine gy1 f1 ?_;refine ⟨by omega,q1W [] hJ yg hlt (fun n=>⟨_,_,⟨rfl,rfl⟩,q1e rfl⟩) fun c=> ?_⟩
    cases c
    · refine gQ ?_;exact ⟨_,_,rfl,rfl,by omega⟩
    refine gQ ?_;refine ⟨hlt,trivial,⟨[],rfl⟩,?_⟩;with_reducible refine sx1 hwr ?_;trivial
   |true=>
    refine gy2 f1 e1 ?_;refine ⟨by omega,q1W [] hJ yg hlt (fun n=>⟨_,_,⟨rfl,rfl⟩,q1e rfl⟩) fun c=> ?_⟩
    cases c
    · refine gQ ?_;exact ⟨_,_,rfl,rfl,by omega⟩
    refine gQ ?_;refine ⟨hlt,trivial,⟨[],rfl⟩,?_⟩;with_reducible refine sx1 hwr ?_;trivial
 obtain rfl:i=11:=by omega
 have f1:(((11:Nat):Int) <11)=False:=by decide
 refine gy1 f1 ?_;exact ⟨_,_,rfl,rfl,Ag _⟩
theorem q8p(k b:List UInt8)(hk:k.length≤70368744177664)(hb:b.length≤70368744000000):PC Tryz.prog 89 [.isl .u8 k,.isl .u8 b] (.isl .u8 (hmS k b)):=by
 have h1:=j0p k 0x36 hk;have h2:=j0p k 0x5c hk;have l1:(hkS k 0x36).length=64:=q2x _ _ _;have l2:(hkS k 0x5c).length=64:=q2x _ _ _;have hE:hmS k b=shaS (hkS k 0x5c++shaS (hkS k 0x36++b)):=rfl;change VC _ _ [_,.raw (.int .u8 54)] _ _ at h1;change VC _ _ [_,.raw (.int .u8 92)] _ _ at h2;rw [hE];generalize hkS k 0x36=k1 at*;generalize hkS k 0x5c=k2 at*;have t1:List.take 64 k1=k1:=Ab (by omega)
 have t2:List.take 64 k2=k2:=Ab (by omega)
 refine q0i rfl rfl ?_;refine rQ fi89 ?_;refine q3L h1 rfl rfl (fun h0=>by rw [h0] at l1;cases l1) ?_
 refine gy2 l1 t1 ?_;refine ⟨by omega,?_⟩
 refine q0q 1 ?_;with_reducible refine sxE ?_
 rw [Ab (by rw [Ad];omega)]
 refine ⟨by rw [Ad];omega,by rw [Ad];omega,q0a (z7b (k1++b) (by rw [Ad];omega)) ?_⟩
 have l3:(shaS (k1++b)).length=32:=q0H _;generalize shaS (k1++b)=s1 at*;refine gy1 l3 ?_;refine j4v fun id k' hrel=> ?_;refine z2L (G:=[]) mixed (m:=7) (by kernel_rfl) ?_
 refine j3j (i:=0) (io:=⟨some 12,.mov (.tmp 0),none⟩) (by kernel_rfl) (by kernel_rfl) (fun H'=>rfl) trivial ?_
 refine j4k (i:=2) (io:=⟨some 14,.sla 32 1 (.tmp 5) none none,none⟩) (by kernel_rfl) (by kernel_rfl) rfl rfl ?_ ?_
 · decide
 have t3:List.take 32 s1=s1:=Ab (by omega)
 have l4:(k2++s1).length=96:=by rw [Ad];omega
 have t4:List.take 96 (k2++s1)=k2++s1:=Ab (by omega)
 have l5:(shaS (k2++s1)).length=32:=q0H _;have t5:List.take 32 (shaS (k2++s1))=shaS (k2++s1):=Ab (by omega)
 have h4:=z7b (k2++s1) (by omega)
 generalize shaS (k2++s1)=s2 at*;refine q9D (i:=1) (j:=5) (io:=⟨some 13,.call (.func 128) [.tmp 12,.const (.int .u8 92)],none⟩) (jo:=⟨some 6,.arr .u8 32,none⟩) (by kernel_rfl) (by kernel_rfl) (by kernel_rfl) ?_ ?_
 · refine j0X h2 rfl rfl (fun h0=>by rw [h0] at l2;cases l2) q1S ?_
   refine q9D (i:=3) (j:=5) (io:=⟨some 15,.app .u8 1 (.tmp 13) (.tmp 14),none⟩) (jo:=⟨some 6,.arr .u8 32,none⟩) (by kernel_rfl) (by kernel_rfl) (by kernel_rfl) ?_ ?_
   · simp (maxSteps:=3000000) only [Res.to,AnyK,l2,l3,t2,t3,go_sem,↓zA,↓reduceIte,↓reduceDIte] <;>try simp only [zB]
     refine ⟨q1S,?_⟩;generalize k2++s1=ks at*;refine q9D (i:=4) (j:=5) (io:=⟨some 16,.call (.func 127) [.tmp 15],none⟩) (jo:=⟨some 6,.arr .u8 32,none⟩) (by kernel_rfl) (by kernel_rfl) (by kernel_rfl) ?_ ?_
     · refine z9d 4 ?_;simp (maxSteps:=3000000) only [handC,l4,t4,go_sem,↓zA,↓reduceIte,↓reduceDIte] <;>try simp only [zB]
       refine z8U h4 ?_;simp (maxSteps:=3000000) only [AnyK,go_sem,↓zA,↓reduceIte,↓reduceDIte] <;>try simp only [zB]
       refine ⟨q1S,?_⟩;refine q4h (l:=[(false,⟨some 6,.arr .u8 32,none⟩),(false,⟨none,.st 32 (.tmp 6) (.tmp 16),none⟩)]) (by kernel_rfl) hrel ?_
       refine gy1 l5 ?_;exact ⟨by decide,t5⟩
     simp (maxSteps:=3000000) only [Res.to,AnyK,go_sem,↓zA,↓reduceIte,↓reduceDIte] <;>try simp only [zB]
     refine ⟨q1S,?_⟩;refine q4h (l:=[(false,⟨some 16,.call (.func 127) [.tmp 15],none⟩),(false,⟨none,.st 32 (.tmp 6) (.tmp 16),none⟩)]) (by kernel_rfl) hrel ?_
     refine gQ ?_;refine q0B 4 (by decide) ?_
     with_reducible refine sy2 l4 t4 ?_
     refine q0e h4 ?_;refine gy1 l5 ?_;exact ⟨by decide,t5⟩
   simp (maxSteps:=3000000) only [Res.to,AnyK,go_sem,↓zA,↓reduceIte,↓reduceDIte] <;>try simp only [zB]
   refine ⟨q1S,?_⟩;refine q4h (l:=[(false,⟨some 15,.app .u8 1 (.tmp 13) (.tmp 14),none⟩),(false,⟨some 16,.call (.func 127) [.tmp 15],none⟩),(false,⟨none,.st 32 (.tmp 6) (.tmp 16),none⟩)]) (by kernel_rfl) hrel ?_
   refine gy4 l2 l3 t2 t3 ?_;refine q0B 5 (by decide) ?_
   with_reducible refine sy2 l4 t4 ?_
   refine q0e h4 ?_;refine gy1 l5 ?_;exact ⟨by decide,t5⟩
 simp (maxSteps:=3000000) only [Res.to,AnyK,go_sem,↓zA,↓reduceIte,↓reduceDIte] <;>try simp only [zB]
 refine ⟨q1S,?_⟩;refine q4h (l:=[(false,⟨some 13,.call (.func 128) [.tmp 12,.const (.int .u8 92)],none⟩),(false,⟨some 15,.app .u8 1 (.tmp 13) (.tmp 14),none⟩),(false,⟨some 16,.call (.func 127) [.tmp 15],none⟩),(false,⟨none,.st 32 (.tmp 6) (.tmp 16),none⟩)]) (by kernel_rfl) hrel ?_
 refine gQ ?_;refine z3N h2 rfl rfl (fun _ h=>by cases h) (fun h0=>by rw [h0] at l2;cases l2) ?_
 refine gy4 l2 l3 t2 t3 ?_;refine q0B 5 (by decide) ?_
 with_reducible refine sy2 l4 t4 ?_
 refine q0e h4 ?_;refine gy1 l5 ?_;exact ⟨by decide,t5⟩
theorem z6n(n:Nat):VC Tryz.prog 144 [rI n] [] (RowK .u8 (four n)):=by
 refine q9g ?_;refine rQ fi144 ?_;refine ⟨⟨q0Y _,q0Y _,q0Y _,q0Y _⟩,?_⟩;rw [byteN _ 24 (by decide),byteN _ 16 (by decide),byteN _ 8 (by decide),byteN0]
 exact q5O (h:=0) rfl rfl
theorem j1d(key label ctx:List UInt8)(n i:Nat)(hk:key.length≤70368744177664)(hl:label.length≤4096)(hc:ctx.length≤4096)(hn:n≤1024)(_hi:i≤1000000):PC Tryz.prog 125 [.isl .u8 key,.isl .u8 label,.isl .u8 ctx,rI n,rI i] (.isl .u8 (kblk key label ctx n i)):=by
 have hw8:IntKind.i64.wrap (8* (n:Int))=((8*n:Nat):Int):=by rw [wrapi (by omega)];omega
 have hE:kblk key label ctx n i=hmS key (four i++label++ [0]++ctx++four (8*n)):=rfl;have h1:=z6n i;have h2:=z6n (8*n);have l1:=q5Y i;have l2:=q5Y (8*n);generalize four i=f1 at*;generalize four (8*n)=f2 at*;have hne:∀ {l:List UInt8} {P:Prop},l.length=4→l= []→P:=fun h h0=>by rw [h0] at h;cases h
 have t1:List.take 4 f1=f1:=Ab (by omega)
 have t2:List.take 4 f2=f2:=Ab (by omega)
 refine q0p rfl rfl ?_;refine rQ fi125 ?_;refine q3L h1 rfl rfl (hne l1) ?_;refine gy3 l1 t1 hw8 ?_;have e3:(f1++label).length=4+label.length:=by rw [Ad,l1]
 have e4:(f1++label++ [UInt8.ofNat 0]++ctx).length=4+label.length+1+ctx.length:=by simp only [Ad,l1,AM,CL]
 refine ⟨by omega,rfl,by omega,by omega,q3L h2 rfl rfl (hne l2) ?_⟩
 rw [e3];have hE':f1++label++ [UInt8.ofNat 0]++ctx++f2=f1++label++ [0]++ctx++f2:=rfl;have e5:(f1++label++ [UInt8.ofNat 0]++ctx++f2).length=4+label.length+1+ctx.length+4:=by rw [Ad,e4,l2]
 generalize f1++label++ [UInt8.ofNat 0]++ctx=A at*;have t3:List.take (4+label.length+1+ctx.length) A=A:=Ab (by omega)
 have t4:List.take (4+label.length+1+ctx.length+4) (A++f2)=A++f2:=Ab (by omega)
 refine gy4 l2 t2 t3 e4 ?_;refine ⟨by omega,?_⟩
 refine q0q 6 ?_;simp (maxSteps:=3000000) only [t4,go_sem,↓zA,↓reduceIte,↓reduceDIte] <;>try simp only [zB]
 refine ⟨by omega,by omega,q0a (q8p key (A++f2) hk (by omega)) ?_⟩
 refine gQ ?_;rw [hE,hE']
theorem j4C(key label ctx:List UInt8)(n:Nat)(hk:key.length≤70368744177664)(hl:label.length≤4096)(hc:ctx.length≤4096)(hn:n≤1024):PC Tryz.prog 87 [.isl .u8 key,.isl .u8 label,.isl .u8 ctx,rI n] (.isl .u8 (kdfS key label ctx n)):=by
 refine q0i rfl rfl ?_;refine rQ fi87 ?_;refine q3j 9 .u8 (fun i=>kacc key label ctx n i) (fun i=>[(10,rI ((i+1:Nat):Int))]) ((n+31) / 32) (fun _=>True) rfl (by simp) (by simp [kacc]) rfl (fun i=>rfl) ?_ fun i hi _=> ?_
 · with_reducible refine sxE ?_
   rfl
 have hl':=q4N key label ctx n i;have hs:kacc key label ctx n (i+1)=kacc key label ctx n i++kblk key label ctx n (i+1):=rfl;by_cases h:i< (n+31) / 32
 · have f1:(((32*i:Nat):Int) < (n:Int))=True:=eq_true (by omega)
   refine gy2 f1 hl' ?_;refine q0a (j1d key label ctx n (i+1) hk hl hc hn (by omega)) ?_
   have hb:=q3T key label ctx n (i+1);generalize kblk key label ctx n (i+1)=B at*;generalize kacc key label ctx n i=A at*;have htk:List.take (32*i) A=A:=Ab (by omega)
   refine gy3 hb hl' htk ?_;refine ⟨by omega,?_⟩
   refine q1M [.dead] [] h trivial (by rw [hs];rfl) ?_
   have hwr:IntKind.i64.wrap (((i+1:Nat):Int)+1)=((i+1+1:Nat):Int):=by rw [wrapi (by omega)];omega
   rw [hs];with_reducible refine sy6 hwr hl' hb hb hb hb ?_
   rw [Ad,hl',hb]
 obtain rfl:i=(n+31) / 32:=by omega
 have f1:(((32* ((n+31) / 32):Nat):Int) < (n:Int))=False:=eq_false (by omega)
 refine gy2 f1 hl' ?_;exact ⟨by omega,by omega,by rw [Cu];rfl⟩
theorem j0o(n:Nat):PC Tryz.prog 84 [rI n] (.isl .u8 (four n)):=by
 refine q0i rfl rfl ?_;refine rQ fi84 ?_;refine ⟨⟨q0Y _,q0Y _,q0Y _,q0Y _⟩,?_⟩;rw [byteN _ 24 (by decide),byteN _ 16 (by decide),byteN _ 8 (by decide),byteN0]
 rfl
theorem j4l(ls:List (List UInt8))(hl:ls.flatten.length≤1099511627776)(hn:ls.length≤1099511627776):PE Tryz.prog 44 [.isl (.slice .u8) ls] [] (.ret (.bld 0 .u8 ls.flatten.length)) [.row .u8 ls.flatten]:=by
 refine j3G ?_;refine rQ fi44 ?_;refine q3j 3 .u8 (fun i=>(ls.take i).flatten) (fun i=>[(8,rI i)]) ls.length (fun _=>True) rfl (by simp) (by simp) rfl (fun i=>rfl) ?_ fun i hi _=> ?_
 · with_reducible refine sxE ?_;trivial
 have hwr:=wsx i (by omega)
 have hfl:=q1i ls i;by_cases h:i<ls.length
 · have hf1:=q3l h;have hfl1:=q1i ls (i+1);rw [hf1,Ad] at hfl1;have hfl2:(ls.take i).flatten.length+ (ls.getD i (Ty.dflt (.slice .u8))).length≤ls.flatten.length:=hfl1;refine gQ ?_;refine ⟨fun _=>⟨⟨by omega,h⟩,⟨by omega,by omega⟩,q1M [.dead] [] h trivial (by rw [hf1];rfl) ?_⟩,fun hh=>absurd h hh⟩
   with_reducible refine sx3 hwr hf1 ?_
   rfl
 obtain rfl:i=ls.length:=by omega
 rw [AE] at*;refine gQ ?_;refine ⟨fun hh=>absurd hh (by omega),fun _=> ?_⟩
 exact j4A (h:=0) rfl rfl
theorem z3z(ls:List (List UInt8))(hl:ls.flatten.length≤1099511627776)(hn:ls.length≤1099511627776):PC Tryz.prog 44 [.isl (.slice .u8) ls] (.isl .u8 ls.flatten):=by
 refine q0i rfl rfl ?_;refine rQ fi44 ?_;refine q3j 3 .u8 (fun i=>(ls.take i).flatten) (fun i=>[(8,rI i)]) ls.length (fun _=>True) rfl (by simp) (by simp) rfl (fun i=>rfl) ?_ fun i hi _=> ?_
 · with_reducible refine sxE ?_;trivial
 have hwr:=wsx i (by omega)
 have hfl:=q1i ls i;by_cases h:i<ls.length
 · have hf1:=q3l h;have hfl1:=q1i ls (i+1);rw [hf1,Ad] at hfl1;have hfl2:(ls.take i).flatten.length+ (ls.getD i (Ty.dflt (.slice .u8))).length≤ls.flatten.length:=hfl1;refine gQ ?_;refine ⟨fun _=>⟨⟨by omega,h⟩,⟨by omega,by omega⟩,q1M [.dead] [] h trivial (by rw [hf1];rfl) ?_⟩,fun hh=>absurd h hh⟩
   with_reducible refine sx3 hwr hf1 ?_
   rfl
 obtain rfl:i=ls.length:=by omega
 rw [AE] at*;refine gQ ?_;refine ⟨fun hh=>absurd hh (by omega),fun _=> ?_⟩
 exact ⟨⟨by omega,by omega⟩,AE⟩
theorem q9f(k:List UInt8)(ps:List (List UInt8))(hk:k.length≤64)(hp:ps.flatten.length≤1099511627776)(hpl:ps.length≤1099511627776):PC Tryz.prog 139 [.isl .u8 k,.isl (.slice .u8) ps] (.isl .u8 (hmS k ps.flatten)):=by
 have hsl:=q2k k ps.flatten;refine q0i rfl rfl ?_;refine rQ fi139 ?_;refine cy1 (j0D k ps hk hp hpl) hsl ?_;exact ⟨⟨by decide,by decide⟩,Ab (by omega)⟩
def dkS(k:KeyT.den)(u use:Nat):List UInt8:=kdfS k.2.2 (four u++ [UInt8.ofNat use]) [] k.2.2.length
theorem q5z(k:KeyT.den)(u use:Nat):(dkS k u use).length=k.2.2.length:=z3r _ _ _ _
theorem z0f(k:KeyT.den)(u:Nat)(hk:k.2.2.length≤64):PC Tryz.prog 43 [.agg (KeyT.cells k),rI u] (.fn 82 [] [.iptr KeyT k 0,.iptr (.int .i64) (u:Int) 0]):=by
 refine q0p rfl rfl ?_;refine q0Z fi43 ?_;refine uQ 4 _ ?_;with_reducible refine sxE ?_
 refine q2l 2 0 (ty:=KeyT) (x:=k) rfl ⟨trivial,trivial,⟨by omega,fun _ _=>trivial⟩⟩ rfl rfl ?_
 refine q2l 3 1 (ty:=.int .i64) (x:=(u:Int)) rfl trivial rfl rfl ?_;refine gQ ?_;trivial
theorem q4u(k:KeyT.den)(u use:Nat)(hk:k.2.2.length≤64)(h1:1≤k.2.2.length)(hu:use<256):PC Tryz.prog 82 [.raw (.int .u8 use),.iptr KeyT k 0,.iptr (.int .i64) (u:Int) 0] (.isl .u8 (dkS k u use)):=by
 obtain ⟨p,v,b⟩:=k;have hbl:b.length≤64:=hk;have hb1:1≤b.length:=h1;refine q0p rfl rfl ?_;refine rQ fi82 ?_;refine q0U (j0o u) ?_;refine gQ ?_;have hj:=z3z [four u,[UInt8.ofNat use]] (by simp [four]) (by simp)
 rw [show [four u,[UInt8.ofNat use]].flatten=four u++ [UInt8.ofNat use] by simp] at hj
 refine ⟨by rw [Bx];omega,?_⟩
 refine q0B 0 (by decide) ?_
 with_reducible refine sxE ?_
 refine cR hj ?_;refine q0e ((j5e b (four u++ [UInt8.ofNat use]) [] b.length hbl (by simp [four]) (by simp) hb1 (by omega)).arg ?_) ?_
 · with_reducible refine sxE ?_;trivial
 refine gQ ?_;rfl
def ksB(key conf text:List UInt8)(i:Nat):UInt8:=text.getD i 0^^^ (hmS key (conf++four (i / 32+1))).getD (i%32) 0
def ksP(key conf text:List UInt8)(n:Nat):List UInt8:=(List.range text.length).map fun i=>if i<n then ksB key conf text i else text.getD i 0
def ksS(key conf text:List UInt8):List UInt8:=(List.range text.length).map (ksB key conf text)
theorem z4Y(key conf text:List UInt8)(n:Nat):(ksP key conf text n).length=text.length:=by simp [ksP]
theorem q3k(key conf text:List UInt8):(ksS key conf text).length=text.length:=by simp [ksS]
theorem z9V(key conf text:List UInt8):ksP key conf text 0=text:=by
 apply Au
 · simp [ksP]
 intro j h1 h2;simp [ksP,Aa,h2]
theorem z0T(key conf text:List UInt8){n:Nat}(h:text.length≤n):ksP key conf text n=ksS key conf text:=by
 apply Au
 · simp [ksP,ksS]
 intro j h1 h2;simp [ksP] at h1;simp only [ksP,ksS,AC,Ax];rw [if_pos (by omega)]
theorem j2n(key conf text:List UInt8){i:Nat}(hi:i<text.length):(ksP key conf text i).getD i 0=text.getD i 0:=by
 simp [ksP,Aa,hi]
theorem j2C(key conf text:List UInt8){i:Nat}(hi:i<text.length):(ksP key conf text i).set i (ksB key conf text i)=ksP key conf text (i+1):=by
 apply Au
 · simp [ksP]
 intro j h1 h2;rw [A4];simp only [ksP,AC,Ax];split
 · subst_vars;rw [if_pos (by omega)]
 rename_i hne;by_cases hj:j<i
 · rw [if_pos hj,if_pos (by omega)]
 rw [if_neg hj,if_neg (by omega)]
theorem z1Z(key conf text:List UInt8){i:Nat}(hi:i<text.length):(ksS key conf text).getD i 0=ksB key conf text i:=by
 simp [ksS,Aa,hi]
theorem j2p(key conf text:List UInt8):ksS key conf (ksS key conf text)=text:=by
 apply Au
 · rw [q3k,q3k]
 intro j h1 h2;have e:(ksS key conf (ksS key conf text))[j]=ksB key conf (ksS key conf text) j:=by
  rw [←z1Z key conf (ksS key conf text) (by rw [q3k];exact h2),Aa,Ae h1];rfl
 rw [e];unfold ksB;rw [z1Z key conf text h2];unfold ksB;rw [UInt8.xor_assoc,UInt8.xor_self,UInt8.xor_zero,Aa,Ae h2];rfl
theorem q7V(key conf text:List UInt8)(hk:key.length≤64)(hc:conf.length≤4096)(ht:text.length≤1048576):PC Tryz.prog 140 [.isl .u8 key,.isl .u8 conf,.isl .u8 text] (.isl .u8 (ksS key conf text)):=by
 have hjo:=j4l [text] (by simp;omega) (by simp)
 rw [BQ] at hjo;refine q0i rfl rfl ?_;refine rQ fi140 ?_;refine q0q 0 ?_;with_reducible refine sxE ?_
 refine eQ [] (hjo) ?_;refine q1q (ι:=Nat) (fun a=>[(8,.raw (.int .i64 ((32*a:Nat):Int)))]) (fun a=>[.dead,.row .u8 (ksP key conf text (32*a))]) (fun a=>(text.length+31) / 32-a) (fun a=>a≤(text.length+31) / 32) 0 (Ai _) 2 (by rw [z9V]) (by decide) (fun _=>rfl) (fun _=>rfl) (fun _=>rfl) ?_ ?_
 · with_reducible refine sxE ?_;trivial
 intro a ha;have hpl:=z4Y key conf text (32*a);have hw32:IntKind.i64.wrap (((32*a:Nat):Int)+32)=((32* (a+1):Nat):Int):=by rw [wrapi (by omega)];omega
 by_cases hlt:32*a<text.length
 · have hq:((32*a:Nat):Int).tdiv 32=(a:Int):=by rw [A8 (by omega)];omega
   have hqw:IntKind.i64.wrap (a:Int)=(a:Int):=by rw [wrapi (by omega)]
   have hq1:IntKind.i64.wrap ((a:Int)+1)=((a+1:Nat):Int):=q2T (by omega)
   have hlt':(((32*a:Nat):Int) < (text.length:Int))=True:=eq_true (by omega)
   refine gy4 hlt' hq hqw hq1 ?_;have hke:=q9f key [conf,four (a+1)] hk (by simp [four];omega) (by simp)
   rw [show [conf,four (a+1)].flatten=conf++four (a+1) by simp] at hke
   have hkl:=q2k key (conf++four (a+1));refine ⟨by decide,q0a (j0o (a+1)) ?_⟩
   refine gQ ?_;refine q0q 2 ?_;with_reducible refine sxE ?_
   refine q0a hke ?_;obtain ⟨E,hE⟩:∃E,E=min (32* (a+1)) text.length:=⟨_,rfl⟩;have hmin:mxV false ((32* (a+1):Nat):Int) (text.length:Int)=(E:Int):=by
    unfold mxV;simp only [A9,if_false];split<;>omega
   refine gy2 hw32 hmin ?_;refine ⟨⟨by omega,by omega,by omega⟩,?_⟩
   refine q0d (ι:=Nat) (fun j=>[(37,rI j)]) (fun j=>[.dead,.row .u8 (ksP key conf text (32*a+j)),.dead]) (fun j=>(E-32*a) -j) (fun j=>j≤E-32*a) 0 (Ai _) rfl ?_ ?_
   · with_reducible refine sxE ?_;trivial
   intro j hj;have hjl:=z4Y key conf text (32*a+j);have hjw:IntKind.i64.wrap ((j:Int)+1)=((j+1:Nat):Int):=q2T (by omega)
   have hjs:IntKind.i64.wrap (((32*a:Nat):Int)+ (j:Int))=((32*a+j:Nat):Int):=by rw [wrapi (by omega)];omega
   by_cases hjl2:j<E-32*a
   · have hc1:((j:Int) < ((E-32*a:Nat):Int))=True:=eq_true (by omega)
     have hpg:=j2n key conf text (i:=32*a+j) (by omega)
     have hx8:=xor8 (text.getD (32*a+j) 0) ((hmS key (conf++four (a+1))).getD j 0);have hps:=j2C key conf text (i:=32*a+j) (by omega)
     have hkb:ksB key conf text (32*a+j)=text.getD (32*a+j) 0^^^ (hmS key (conf++four (a+1))).getD j 0:=by
      unfold ksB;rw [show (32*a+j) / 32=a by omega,show (32*a+j)%32=j by omega]
     rw [hkb] at hps;refine gyd10 hc1 hjs hjl hkl hpg hx8 Ac Ac Ac Ac ?_;refine ⟨⟨by omega,by omega⟩,by omega,⟨by omega,by omega⟩,⟨by omega,by omega⟩,⟨by omega,by rw [UInt8.ofNat_toNat]⟩,j+1,(show j+1≤E-32*a by omega),by dsimp only;omega,?_,?_⟩
     · rw [AB,hps];rfl
     with_reducible refine sx1 hjw ?_;trivial
   obtain rfl:j=E-32*a:=by omega
   have hc1:((((E-32*a:Nat):Int)) < ((E-32*a:Nat):Int))=False:=eq_false (by omega)
   refine gy2 hc1 hw32 ?_;refine ⟨a+1,(show a+1≤(text.length+31) / 32 by omega),by dsimp only;omega,⟨[.dead],?_⟩,?_⟩
   · have e:ksP key conf text (32*a+ (E-32*a))=ksP key conf text (32* (a+1)):=by
      rcases Nat.le_total (32* (a+1)) text.length with h|h
      · rw [show 32*a+ (E-32*a)=32* (a+1) by omega]
      rw [z0T key conf text (by omega),z0T key conf text h]
     rw [e];rfl
   with_reducible refine sxE ?_;trivial
 have hlt':(((32*a:Nat):Int) < (text.length:Int))=False:=eq_false (by omega)
 refine gy1 hlt' ?_;rw [z0T key conf text (by omega)]
 have hsl:=q3k key conf text;exact ⟨⟨by omega,by omega⟩,Ab (by omega)⟩
def uOk(k:Key)(u:Int):Bool:=vKey k&& (decide (1≤u) && decide (u≤1023))
theorem z3d(k:Key)(u:Int)(ho:KeyT.ok k):PC Tryz.prog 42 [.agg (KeyT.cells k),rI u] (.tup [.agg (rawL (if uOk k u=true then kindOf k.1 else kindZ)),rI (if uOk k u=true then 0 else 2)]):=by
 have hf:=j0i k;obtain ⟨p,v,b⟩:=k;refine q0p rfl (by simp [SV.clean,SV.cleanL,q4c]) ?_
 change PC _ _ _ (.tup [.agg (rawL (kindOf p)),rB (vKey (p,v,b))]) at hf;unfold uOk;show VC _ _ _ _ (PK (.tup [.agg (rawL (if (vKey (p,v,b) && (decide (1≤u) && decide (u≤1023)))=true then kindOf p else kindZ)),_]));generalize vKey (p,v,b)=vb at*;have h3:=q5I p;generalize kindOf p=kv at*;rcases h3 with rfl|rfl|rfl
 all_goals
  cases vb
  · refine rQ fi42 ?_;refine cQ hf ?_;trivial
  by_cases h1:1≤u
  · have h1':(u<1)=False:=eq_false (by omega)
    by_cases h2:u≤1023
    · have h2':(1023<u)=False:=eq_false (by omega)
      refine rQ fi42 ?_;refine cy4 hf h1 h2 h1' h2' ?_;trivial
    have h2':(1023<u)=True:=eq_true (by omega)
    refine rQ fi42 ?_;refine cy4 hf h1 h2 h1' h2' ?_;trivial
  have h1':(u<1)=True:=eq_true (by omega)
  refine rQ fi42 ?_;refine q0a hf ?_;refine gy2 h1 h1' ?_;trivial
theorem z6o(key conf plain:List UInt8)(hk:key.length≤64)(hc:conf.length≤4096)(ht:plain.length≤1048576):PC Tryz.prog 117 [.isl .u8 key,.isl .u8 conf,.isl .u8 plain] (.isl .u8 (conf++ksS key conf plain)):=by
 have hsl:=q3k key conf plain;have hj:=z3z [conf,ksS key conf plain] (by simp;omega) (by simp)
 rw [show [conf,ksS key conf plain].flatten=conf++ksS key conf plain by simp] at hj
 refine q0p rfl rfl ?_;refine rQ fi117 ?_;refine cQ (q7V key conf plain hk hc ht) ?_;refine q0q 0 ?_;with_reducible refine sxE ?_
 refine cQ hj ?_;trivial
theorem z0q(key cipher:List UInt8)(hk:key.length≤64)(hc:cipher.length≤1048576):PC Tryz.prog 119 [.isl .u8 key,.isl .u8 cipher] (.isl .u8 (hmS key cipher)):=by
 have hj:=q9f key [cipher] hk (by simp;omega) (by simp)
 rw [BQ] at hj;refine q0p rfl rfl ?_;refine rQ fi119 ?_;refine q0q 0 ?_;with_reducible refine sxE ?_
 refine cQ hj ?_;trivial
theorem z7l(key cipher:List UInt8)(hk:key.length≤64)(h1:16≤cipher.length)(hc:cipher.length≤1048576):PC Tryz.prog 118 [.isl .u8 key,.isl .u8 cipher] (.isl .u8 (ksS key (cipher.take 16) (cipher.drop 16))):=by
 refine q0p rfl rfl ?_;refine rQ fi118 ?_;rw [AE];refine ⟨by omega,⟨by omega,by omega⟩,q0e (q7V key (cipher.take 16) (cipher.drop 16) hk (by rw [Aj];omega) (by rw [Al];omega)) ?_⟩
 refine gQ ?_;trivial
def ciS2(k:Key)(u:Nat)(conf plain:List UInt8):List UInt8:=conf++ksS (dkS k u 170) conf plain
def seS2(k:Key)(u:Nat)(conf plain:List UInt8):List UInt8:=ciS2 k u conf plain++hmS (dkS k u 85) (ciS2 k u conf plain)
theorem z1x(p:Int):PC Tryz.prog 51 [rI p] (rI (keyLen p)):=by
 refine q0p rfl rfl ?_;unfold keyLen;by_cases h1:p=1
 · subst h1;refine rQ fi51 ?_;trivial
 rw [if_neg h1];have f1:(p=1)=False:=eq_false h1;by_cases h2:p=2
 · subst h2;refine rQ fi51 ?_;trivial
 rw [if_neg h2];have f2:(p=2)=False:=eq_false h2;refine ry2 fi51 f1 f2 ?_;trivial
theorem z1i(k:Key):PC Tryz.prog 28 [.agg (KeyT.cells k)] (rB (vKey k)):=by
 obtain ⟨p,v,b⟩:=k;have hk:=z1x p;have hp:0≤keyLen p∧keyLen p≤32:=by unfold keyLen;split<;> (try split) <;>omega
 refine q0p rfl rfl ?_;unfold vKey;generalize keyLen p=n at*;refine rQ fi28 ?_;refine q0e hk ?_;by_cases h0:n=0
 · have f0:(0<n)=False:=eq_false (by omega)
   refine gy1 f0 ?_;simp [h0]
 have f0:(0<n)=True:=eq_true (by omega)
 refine gy1 f0 ?_;refine q0e hk ?_;by_cases h1:((b.length:Nat):Int)=n
 · have f1:(((b.length:Nat):Int)=n)=True:=eq_true h1;by_cases h2:0≤v
   · have f2:((0:Int)≤v)=True:=eq_true h2;refine gy2 f1 f2 ?_;simp [h0,h1,h2]
   have f2:((0:Int)≤v)=False:=eq_false h2;refine gy2 f1 f2 ?_;trivial
 have f1:(((b.length:Nat):Int)=n)=False:=eq_false h1;refine gy1 f1 ?_;trivial
theorem z4M(k:Key)(u:Int):PC Tryz.prog 52 [.agg (KeyT.cells k),rI u] (rB (uOk k u)):=by
 have hk:=z1i k;obtain ⟨p,v,b⟩:=k;refine q0p rfl rfl ?_;unfold uOk;generalize vKey (p,v,b)=vb at*;refine rQ fi52 ?_;refine q0a hk ?_;cases vb
 · refine gQ ?_;trivial
 by_cases h1:(1:Int)≤u
 · have f1:((1:Int)≤u)=True:=eq_true h1;refine gy1 f1 ?_;trivial
 have f1:((1:Int)≤u)=False:=eq_false h1;refine gy1 f1 ?_;trivial
theorem z7N(k:Key)(u:Nat)(c:UInt8)(hv:vKey k=true)(hu:u≤1023):PC Tryz.prog 53 [.agg (KeyT.cells k),rI u,.raw (.int .u8 c.toNat)] (.isl .u8 (dkS k u c.toNat)):=by
 obtain ⟨p,v,b⟩:=k;have hk:=z1x p;have hbl:((b.length:Nat):Int)=keyLen p:=by unfold vKey at hv;simp only [Am,decide_eq_true_eq] at hv;exact hv.2.1
 have hp:keyLen p≤32:=by unfold keyLen;split<;> (try split) <;>omega
 have hE:dkS (p,v,b) u c.toNat=kdfS b (four u++ [UInt8.ofNat c.toNat]) [] b.length:=rfl;rw [hE];rw [←hbl] at hk hp;have q1:(u:Int).tdiv 256=((u / 256:Nat):Int):=by rw [A8 (by omega)];rfl
 have q2:(u:Int).tmod 256=((u%256:Nat):Int):=by rw [As (by omega)];rfl
 have w1:IntKind.i64.wrap ((u / 256:Nat):Int)=((u / 256:Nat):Int):=wrapi (by omega)
 have w2:IntKind.i64.wrap ((u%256:Nat):Int)=((u%256:Nat):Int):=wrapi (by omega)
 have hlab:[UInt8.ofNat 0,UInt8.ofNat 0,UInt8.ofNat (IntKind.u8.wrap ((u / 256:Nat):Int)).toNat,UInt8.ofNat (IntKind.u8.wrap ((u%256:Nat):Int)).toNat,UInt8.ofNat c.toNat]=four u++ [UInt8.ofNat c.toNat]:=by
  unfold four;rw [show u / 2^ 24%256=0 by omega,show u / 2^ 16%256=0 by omega,u8wrapR,u8wrapR]
  rw [show (((u / 256:Nat):Int)%256).toNat=u / 2^ 8%256 by omega,show (((u%256:Nat):Int)%256).toNat=u / 2^ 0%256 by omega]
  rfl
 refine q0p rfl rfl ?_;refine q0Z fi53 ?_;refine uQ 16 _ ?_;with_reducible refine sy6 q1 q2 w1 w2 w2 w2 ?_
 refine ⟨by decide,by decide,⟨rfl,rfl,q0Y _,q0Y _,by rw [AB]⟩,?_⟩
 rw [hlab];have hll:(four u++ [UInt8.ofNat c.toNat]).length=5:=rfl;generalize four u++ [UInt8.ofNat c.toNat]=lab at*;refine q0X 1 rfl rfl (by rw [hll];decide) ?_ ?_ ?_
 · with_reducible refine sxE ?_;trivial
 · with_reducible refine sxE ?_
   omega
 with_reducible refine sxE ?_
 rw [Ab (show lab.length≤5 by omega)]
 have hkd:=j4C b lab [] b.length (by omega) (by omega) (by simp) (by omega)
 refine gQ ?_;refine cR hk ?_;refine q0e (hkd.arg ?_) ?_
 · with_reducible refine sxE ?_;trivial
 refine gQ ?_;trivial
def z16:List UInt8:=List.replicate 16 0
def tg9S(k:Key)(u:Nat)(c:List UInt8):List UInt8:=if k.1=1 then (hmS (dkS k u 85) (z16++c)).take 16 else hmS (dkS k u 85) c
theorem j0R(k:Key)(u:Nat)(c:List UInt8)(ho:KeyT.ok k)(hv:vKey k=true)(hu:u≤1023)(hc:c.length≤1048576):PC Tryz.prog 56 [.agg (KeyT.cells k),rI u,.isl .u8 c] (.isl .u8 (tg9S k u c)):=by
 have hd:=z7N k u 85 hv hu;have hbl:k.2.2.length≤32:=by
  unfold vKey at hv;simp only [Am,decide_eq_true_eq] at hv;have h1:=hv.2.1;unfold keyLen at h1;split at h1<;> (try split at h1) <;>omega
 have hdl:=q5z k u 85;have hE:tg9S k u c=if k.1=1 then (hmS (dkS k u 85) (z16++c)).take 16 else hmS (dkS k u 85) c:=rfl;rw [hE];change PC _ _ [_,_,.raw (.int .u8 85)] (.isl .u8 (dkS k u 85)) at hd;generalize dkS k u 85=key at*;obtain ⟨p,v,b⟩:=k;change b.length≤32 at hbl;change key.length=b.length at hdl;refine q0i rfl rfl ?_;refine rQ fi56 ?_;refine q0a hd ?_;by_cases h1:p=1
 · subst h1;rw [if_pos rfl];have hzl:z16.length=16:=rfl;refine gQ ?_;refine ⟨by omega,?_⟩
   change CallI _ _ _ _ _ {k0:=_,todo:=_,tmps:=_,heap:=[_,_,.row .u8 (z16++c)]};have hcl:(z16++c).length=16+c.length:=by rw [Ad,hzl]
   generalize z16++c=zc at*;have htc:List.take (16+c.length) zc=zc:=Ab (by omega)
   refine q0q 2 ?_;with_reducible refine sx1 htc ?_
   refine ⟨by omega,by omega,q0a (q8p key zc (by omega) (by omega)) ?_⟩
   have hhl:=q2k key zc;refine gy1 hhl ?_;decide
 rw [if_neg h1];have f1:(p=1)=False:=eq_false h1;refine gy1 f1 ?_;refine cQ (q8p key c (by omega) (by omega)) ?_;trivial
end Go.Proofs.YtikapabgggphpaaGreatDoor
