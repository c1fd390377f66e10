/- Derivation: contracts: numbered blocks. -/
import Derived.Test.YtmapiojgmbgbgaaGreatDoorV27
set_option linter.all false
namespace Go.Proofs.YtmapiojgmbgbgaaGreatDoor
open Go Go.Sx Go.Proofs
set_option maxRecDepth 100000
set_option maxHeartbeats 40000000
theorem z4c(x:derT.den)(hok:derT.ok x):PC Tryz.prog 230 [.fn 231 [.agg (derT.cells x)] []] (.fn 260 [] [.iptr (.clo 231 derT) x 0]):=by
 refine q0w rfl rfl ?_;refine q4s fi230 ?_;refine uQ 3 _ ?_;with_reducible refine sxE ?_
 refine q3L 1 0 (ty:=.clo 231 derT) (x:=x) rfl hok rfl rfl ?_;refine gQ ?_;trivial
def vwK(key label ctx:List UInt8)(n:Nat):Nat→Nat→List SV→List SObj→Prop:=fun i _ args' new=>args'= [rI ((i+1:Nat):Int),.isl .u8 (kblk key label ctx n (i+1))]∧new= []
theorem z1v(key label ctx:List UInt8)(n N:Nat)(hk:key.length≤64)(hl:label.length≤4096)(hc:ctx.length≤4096)(hn:n≤1024)(hN:N≤1000):IterI True Tryz.prog 260 [] [.iptr (.clo 231 derT) (key,label,ctx,(n:Int)) 0] N (vwK key label ctx n):=by
 refine ⟨by kernel_rfl,fun l B J hJ yg hno=> ?_⟩
 refine (q6H (yFG hJ) fi260 ?_).2
 letI:Ghost:=topG (yFG hJ) []
 refine gQ ?_;refine z6t [] (fun i=>i) (fun i=>[(3,rI ((i+1:Nat):Int))]) N (fun _=>True) trivial rfl (by simp) (by simp [SV.bel]) ?_ fun i hi _=> ?_
 · with_reducible refine sxE ?_
   rfl
 by_cases hlt:i<N
 · have hwr:IntKind.i64.wrap (((i+1:Nat):Int)+1)=((i+1+1:Nat):Int):=q1L (by omega)
   refine gQ ?_;refine q0a (z9f key label ctx n (i+1) hk hl hc hn (by omega)) ?_
   have hbl:=q6w key label ctx n (i+1);generalize hb:kblk key label ctx n (i+1)=b at*;refine uQ 8 _ ?_;with_reducible refine sx1 hbl ?_
   refine ⟨⟨by decide,by decide⟩,?_⟩
   refine q1i 1 rfl rfl (by rw [hbl];decide) ?_ ?_ ?_
   · with_reducible refine sxE ?_;trivial
   · with_reducible refine sxE ?_
     omega
   with_reducible refine sxE ?_
   have htk:List.take 32 (List.drop 0 b)=b:=by rw [Au];exact Ah (by omega)
   refine gy1 htk ?_;refine q4R [.dead] hJ yg hlt (fun n=>⟨_,_,⟨by rw [hb,Ah (show b.length≤32 by omega)],rfl⟩,q2V rfl⟩) fun c=> ?_
   cases c
   · refine gQ ?_;exact ⟨_,_,rfl,rfl,by omega⟩
   refine gQ ?_;refine ⟨hlt,trivial,⟨[_],rfl⟩,?_⟩;with_reducible refine sx1 hwr ?_;trivial
 obtain rfl:i=N:=by omega
 exact z9C hJ (hno trivial)
def kacc(key label ctx:List UInt8)(n:Nat):Nat→List UInt8
 |0=>[]
 |i+1=>kacc key label ctx n i++kblk key label ctx n (i+1)
theorem q6x(key label ctx:List UInt8)(n:Nat):∀i,(kacc key label ctx n i).length=32*i
 |0=>rfl
 |i+1=>by rw [kacc,Af,q6x key label ctx n i,q6w];omega
def kdfS(key label ctx:List UInt8)(n:Nat):List UInt8:=(kacc key label ctx n ((n+31) / 32)).take n
theorem z3x(key label ctx:List UInt8)(n:Nat):(kdfS key label ctx n).length=n:=by
 unfold kdfS;rw [Aw,q6x];omega
def frC(n i:Nat)(G:List SObj)(acc:List UInt8):List SObj:=.cells 3 [rI n] :: .cells 29 [.bld (G.length+2) .u8 (32*i)] :: (G++ [.row .u8 acc])
def frH(key label ctx:List UInt8)(n:Nat)(i:Nat)(H':List SObj):Prop:=i< (n+31) / 32∧∃G,(∃g,G=List.replicate g SObj.dead)∧H'=frC n i G (kacc key label ctx n i)
def frX(key label ctx:List UInt8)(n:Nat)(i:Nat)(ex:Ex)(H':List SObj):Prop:=ex= .exit 0∧i+1=(n+31) / 32∧∃G,(∃g,G=List.replicate g SObj.dead)∧H'=frC n (i+1) G (kacc key label ctx n (i+1))
theorem q7k{h:Nat}{t:Ty}{xs:List t.den}{l:List SObj}:∀g,frzObH h t xs l→frzObH h t xs (List.replicate g SObj.dead++l)
 |0,hl=>hl
 |g+1,hl=>⟨trivial,q7k g hl⟩
theorem j1g(key label ctx:List UInt8)(n:Nat)(hk:key.length≤64)(hl:label.length≤4096)(hc:ctx.length≤4096)(h1:1≤n)(hn:n≤1024):PC Tryz.prog 229 [rI n,.fn 260 [] [.iptr (.clo 231 derT) (key,label,ctx,(n:Int)) 0]] (.isl .u8 (kdfS key label ctx n)):=by
 refine q0w rfl rfl (z2n (q6H noFG fi229 ?_))
 letI:Ghost:=topG noFG []
 refine gQ ?_;refine q4c 1 0 .u8 rfl rfl rfl ?_;have hN:(n+31) / 32≤1000:=by omega
 refine j0d (inf:=True) (frH key label ctx n) (frX key label ctx n) rfl rfl rfl (z1v key label ctx n ((n+31) / 32) hk hl hc hn hN) (fun _ Hn h=>absurd h.1 (Ck _)) (fun i n args' new h=>by rw [h.1];rfl) ⟨by omega,[],⟨0,rfl⟩,rfl⟩ rfl ?_ ?_ ?_
 · rintro i _ args' new hi ⟨hlt,G,⟨g,hg⟩,rfl⟩ ⟨rfl,rfl⟩ L1 L2
   letI:Ghost:=pinG noFG L1
   rw [Ai];have hal:=q6x key label ctx n i;have hbl:=q6w key label ctx n (i+1);have hac:kacc key label ctx n i++kblk key label ctx n (i+1)=kacc key label ctx n (i+1):=rfl;generalize hka:kacc key label ctx n i=a at*;generalize hkb:kblk key label ctx n (i+1)=b at*;unfold frC;refine uQ 600 _ ?_;simp only [putL,CD];with_reducible refine sxaE ?_
   letI:Ghost:=pinG noFG L2
   refine gya2 hal hbl ?_;refine ⟨⟨by omega,by omega⟩,fun h=>⟨rfl,by omega,G++ [.dead],⟨g+1,by rw [hg,CA]⟩,?_⟩,fun h=>⟨by omega,G++ [.dead],⟨g+1,by rw [hg,CA]⟩,?_⟩⟩
   · rw [←hac];simp [frC,CN]
   rw [←hac];simp [frC,CN]
 · rintro D _ ⟨h,_⟩;exact absurd h (Ck _)
 rintro D i ex _ hi ⟨rfl,hiN,G,⟨g,hg⟩,rfl⟩;refine ⟨_,rfl,?_⟩;unfold frC
 letI:Ghost:=topG noFG [D]
 have hal:=q6x key label ctx n (i+1);have hke:List.take n (kacc key label ctx n (i+1))=kdfS key label ctx n:=by rw [hiN];rfl
 generalize kacc key label ctx n (i+1)=a at*;refine uQ 5 _ ?_;with_reducible refine sxaE ?_
 refine ⟨⟨by omega,by omega⟩,?_⟩
 refine q1i (G.length+2) (ty:=.u8) (xs:=a) rfl (by simp) (by omega) ?_ ?_ ?_
 · with_reducible refine sxaE ?_
   refine ⟨by omega,?_⟩
   rw [hg];exact q7k g ⟨trivial,trivial⟩
 · with_reducible refine sxaE ?_
   exact ⟨by omega,by omega⟩
 with_reducible refine sxaE ?_
 rw [Nat.sub_zero,hke];have hkl:(kdfS key label ctx n).length=n:=z3x _ _ _ _;refine aQ ?_;refine q0a (q9J (kdfS key label ctx n) (by omega)) ?_
 refine aQ ?_;trivial
theorem j4s(key label ctx:List UInt8)(n:Nat)(hk:key.length≤64)(hl:label.length≤4096)(hc:ctx.length≤4096)(h1:1≤n)(hn:n≤1024):PC Tryz.prog 198 [.isl .u8 key,.isl .u8 label,.isl .u8 ctx,rI n] (.tup [.isl .u8 (kdfS key label ctx n),rI 0]):=by
 have hal:=j2h n [key,label,ctx] h1 hn (fun l hl'=>by simp at hl';rcases hl' with rfl|rfl|rfl<;>omega) (by simp)
 refine q0w rfl rfl ?_;refine rQ fi198 ?_;refine q0A 0 ?_;with_reducible refine sxE ?_
 refine cQ hal ?_;refine cQ (z4c (key,label,ctx,(n:Int)) ⟨⟨show key.length≤1125899906842624 by omega,fun _ _=>trivial⟩,⟨show label.length≤1125899906842624 by omega,fun _ _=>trivial⟩,⟨show ctx.length≤1125899906842624 by omega,fun _ _=>trivial⟩,trivial⟩) ?_
 refine cQ (j1g key label ctx n hk hl hc h1 hn) ?_;trivial
theorem j4f(n:Nat):PC Tryz.prog 199 [rI n] (.isl .u8 (four n)):=by
 refine q0u rfl rfl ?_;refine rQ fi199 ?_;refine ⟨⟨q2D _,q2D _,q2D _,q2D _⟩,?_⟩;rw [byteN _ 24 (by decide),byteN _ 16 (by decide),byteN _ 8 (by decide),byteN0]
 rfl
theorem j0n(ls:List (List UInt8))(hl:ls.flatten.length≤1099511627776)(hn:ls.length≤1099511627776):PC Tryz.prog 148 [.isl (.slice .u8) ls] (.isl .u8 ls.flatten):=by
 refine q0u rfl rfl ?_;refine rQ fi148 ?_;refine q3o 3 .u8 (fun i=>(ls.take i).flatten) (fun i=>[(8,rI i)]) ls.length (fun _=>True) rfl (by simp) (by simp) rfl (fun i=>rfl) ?_ fun i hi _=> ?_
 · with_reducible refine sxE ?_;trivial
 have hwr:=wsx i (by omega)
 have hfl:=q2g ls i;by_cases h:i<ls.length
 · have hf1:=q7q h;have hfl1:=q2g ls (i+1);rw [hf1,Af] at hfl1;have hfl2:(ls.take i).flatten.length+ (ls.getD i (Ty.dflt (.slice .u8))).length≤ls.flatten.length:=hfl1;refine gQ ?_;refine ⟨fun _=>⟨⟨by omega,h⟩,⟨by omega,by omega⟩,q2a [.dead] [] h trivial (by rw [hf1];rfl) ?_⟩,fun hh=>absurd h hh⟩
   with_reducible refine sx3 hwr hf1 ?_
   rfl
 obtain rfl:i=ls.length:=by omega
 rw [Az] at*;refine gQ ?_;refine ⟨fun hh=>absurd hh (by omega),fun _=> ?_⟩
 exact ⟨⟨by omega,by omega⟩,Az⟩
theorem z8Z(k:List UInt8)(ps:List (List UInt8))(hk:k.length≤64)(hp:ps.flatten.length≤1099511627776)(hpl:ps.length≤1099511627776):PC Tryz.prog 146 [.isl .u8 k,.isl (.slice .u8) ps] (.isl .u8 (hmS k ps.flatten)):=by
 have hsl:=q9n k ps.flatten;refine q0u rfl rfl ?_;refine rQ fi146 ?_;refine cy1 (j0z k ps hk hp hpl) hsl ?_;exact ⟨⟨by decide,by decide⟩,Ah (by omega)⟩
def dkS(k:KeyT.den)(u use:Nat):List UInt8:=kdfS k.2.2 (four u++ [UInt8.ofNat use]) [] k.2.2.length
theorem j2K(k:KeyT.den)(u use:Nat):(dkS k u use).length=k.2.2.length:=z3x _ _ _ _
theorem z7P(k:KeyT.den)(u:Nat)(hk:k.2.2.length≤64):PC Tryz.prog 147 [.agg (KeyT.cells k),rI u] (.fn 197 [] [.iptr KeyT k 0,.iptr (.int .i64) (u:Int) 0]):=by
 refine q0w rfl rfl ?_;refine q4s fi147 ?_;refine uQ 4 _ ?_;with_reducible refine sxE ?_
 refine q3L 2 0 (ty:=KeyT) (x:=k) rfl ⟨trivial,trivial,⟨by omega,fun _ _=>trivial⟩⟩ rfl rfl ?_
 refine q3L 3 1 (ty:=.int .i64) (x:=(u:Int)) rfl trivial rfl rfl ?_;refine gQ ?_;trivial
theorem z7a(k:KeyT.den)(u use:Nat)(hk:k.2.2.length≤64)(h1:1≤k.2.2.length)(hu:use<256):PC Tryz.prog 197 [.raw (.int .u8 use),.iptr KeyT k 0,.iptr (.int .i64) (u:Int) 0] (.isl .u8 (dkS k u use)):=by
 obtain ⟨p,v,b⟩:=k;have hbl:b.length≤64:=hk;have hb1:1≤b.length:=h1;refine q0w rfl rfl ?_;refine rQ fi197 ?_;refine q0H (j4f u) ?_;refine gQ ?_;have hj:=j0n [four u,[UInt8.ofNat use]] (by simp [four]) (by simp)
 rw [show [four u,[UInt8.ofNat use]].flatten=four u++ [UInt8.ofNat use] by simp] at hj
 refine ⟨by rw [BV];omega,?_⟩
 refine q0L 0 (by decide) ?_
 with_reducible refine sxE ?_
 refine cR hj ?_;refine q0k ((j4s b (four u++ [UInt8.ofNat use]) [] b.length hbl (by simp [four]) (by simp) hb1 (by omega)).arg ?_) ?_
 · with_reducible refine sxE ?_;trivial
 refine gQ ?_;rfl
def uOk(k:Key)(u:Int):Bool:=vKey k&& (decide (1≤u) && decide (u≤1023))
theorem z9k(k:Key)(u:Int)(ho:KeyT.ok k):PC Tryz.prog 145 [.agg (KeyT.cells k),rI u] (.tup [.agg (rawL (if uOk k u=true then kindOf k.1 else kindZ)),rI (if uOk k u=true then 0 else 2)]):=by
 have hf:=j0B k;obtain ⟨p,v,b⟩:=k;refine q0w rfl (by simp [SV.clean,SV.cleanL,q4w]) ?_
 change PC _ _ _ (.tup [.agg (rawL (kindOf p)),rB (vKey (p,v,b))]) at hf;unfold uOk;show VC _ _ _ _ (PK (.tup [.agg (rawL (if (vKey (p,v,b) && (decide (1≤u) && decide (u≤1023)))=true then kindOf p else kindZ)),_]));generalize vKey (p,v,b)=vb at*;have h3:=q5S p;generalize kindOf p=kv at*;rcases h3 with rfl|rfl|rfl
 all_goals
  cases vb
  · refine rQ fi145 ?_;refine cQ hf ?_;trivial
  by_cases h1:1≤u
  · have h1':(u<1)=False:=eq_false (by omega)
    by_cases h2:u≤1023
    · have h2':(1023<u)=False:=eq_false (by omega)
      refine rQ fi145 ?_;refine cy4 hf h1 h2 h1' h2' ?_;trivial
    have h2':(1023<u)=True:=eq_true (by omega)
    refine rQ fi145 ?_;refine cy4 hf h1 h2 h1' h2' ?_;trivial
  have h1':(u<1)=True:=eq_true (by omega)
  refine rQ fi145 ?_;refine q0a hf ?_;refine gy2 h1 h1' ?_;trivial
theorem or8(a b:UInt8):orK .u8 (a.toNat:Int) (b.toNat:Int)=((a|||b).toNat:Int):=by
 unfold orK;have ha:=a.toNat_lt;have hb:=b.toNat_lt;have hx:a.toNat|||b.toNat<2^ 8:=Nat.or_lt_two_pow ha hb
 have e:(BitVec.ofInt IntKind.u8.bits (a.toNat:Int) |||BitVec.ofInt IntKind.u8.bits (b.toNat:Int)).toNat=a.toNat|||b.toNat:=by
  rw [Cl,AI,AI,AS,AS];rw [show 2^ IntKind.u8.bits=256 from rfl,AL ha,AL hb]
 rw [e,u8wrapR,UInt8.toNat_or];omega
def dfS(a b:List UInt8):Nat→UInt8
 |0=>0
 |i+1=>dfS a b i||| (a.getD i 0^^^ b.getD i 0)
theorem z9M{a b:UInt8}:a|||b=0 ↔ a=0∧b=0:=by
 constructor
 · intro h;have h1:(a|||b).toNat=0:=by rw [h];rfl
   rw [UInt8.toNat_or] at h1;have ha:= @Nat.left_le_or a.toNat b.toNat;have hb:= @Nat.right_le_or a.toNat b.toNat;exact ⟨BY.1 (by show a.toNat=0;omega),BY.1 (by show b.toNat=0;omega)⟩
 rintro ⟨rfl,rfl⟩;rfl
theorem z7n{a b:UInt8}:a^^^ b=0 ↔ a=b:=UInt8.xor_eq_zero_iff
theorem z3Q(a b:List UInt8):∀i,dfS a b i=0 ↔ ∀j,j<i→a.getD j 0=b.getD j 0
 |0=>by simp [dfS]
 |i+1=>by
  rw [dfS,z9M,z3Q a b i,z7n];constructor
  · rintro ⟨h1,h2⟩ j hj;by_cases e:j=i
    · subst e;exact h2
    exact h1 j (by omega)
  intro h;exact ⟨fun j hj=>h j (by omega),h i (by omega)⟩
theorem j4j{a b:List UInt8}(h:a.length=b.length):dfS a b a.length=0 ↔ a=b:=by
 rw [z3Q];constructor
 · intro h1;apply AP h;intro j h2 h3;have:=h1 j h2;rw [Ad,Ad,Ab h2,Ab h3] at this;exact this
 rintro rfl j _;rfl
theorem j2N(a b:List UInt8)(ha:a.length≤1099511627776)(hb:b.length≤1099511627776):PC Tryz.prog 216 [.isl .u8 a,.isl .u8 b] (rB (decide (a=b))):=by
 refine q0w rfl rfl ?_;by_cases hl:a.length=b.length
 · have hl':((a.length:Int)=(b.length:Int))=True:=eq_true (by omega)
   refine ry1 fi216 hl' ?_;refine q0y (ι:=Nat) (fun i=>[(14,rI i),(5,.raw (.int .u8 (dfS a b i).toNat))]) (fun i=>[]) (fun i=>a.length-i) (fun i=>i≤a.length) 0 (Al _) rfl ?_ ?_
   · with_reducible refine sxE ?_
     rfl
   intro i hi;have hwr:=wsx i (by omega)
   by_cases h:i<a.length
   · have hx:=xor8 (a.getD i 0) (b.getD i 0);have ho:=or8 (dfS a b i) (a.getD i 0^^^ b.getD i 0);refine gyd3 hx ho Ac ?_;refine ⟨fun _=>⟨⟨by omega,by omega⟩,⟨by omega,by omega⟩,i+1,h,by dsimp only;omega,rfl,?_⟩,fun hh=>absurd h hh⟩
     with_reducible refine sx1 hwr ?_
     rfl
   obtain rfl:i=a.length:=by omega
   refine gQ ?_;refine ⟨fun hh=>absurd hh (by omega),fun _=> ?_⟩
   rw [decide_eq_decide,←j4j hl,←BY];exact Int.natCast_eq_zero
 have hl':((a.length:Int)=(b.length:Int))=False:=eq_false (by omega)
 refine ry1 fi216 hl' ?_;exact (decide_eq_false (fun e=>hl (by rw [e]))).symm
theorem z8n(a b:List UInt8)(ha:a.length≤1099511627776)(hb:b.length≤1099511627776):PC Tryz.prog 168 [.isl .u8 a,.isl .u8 b] (rB (decide (a=b))):=by
 refine q0w rfl rfl ?_;refine rQ fi168 ?_;refine cQ (j2N a b ha hb) ?_;trivial
def kdL(nm:ByteArray)(kl tl:Nat)(fe fd fm:FuncId):List Value:=[.string nm,.int .i64 kl,.int .i64 16,.int .i64 tl,.int .i64 tl,fnV fe,fnV fd,fnV fm]
def smS(k:Key)(u:Nat)(b:List UInt8):List UInt8:=(hmS (dkS k u 153) b).take k.2.2.length
theorem q5J(k:Key)(u:Nat)(b:List UInt8)(h:k.2.2.length≤32):(smS k u b).length=k.2.2.length:=by
 unfold smS;rw [Aw,q9n];omega
theorem z0i(nm:ByteArray)(tl:Nat)(fe fd fm:FuncId)(p v:Int)(b:List UInt8)(u:Nat)(x:List UInt8)(hu:PC Tryz.prog 145 [.agg (KeyT.cells (p,v,b)),rI u] (.tup [.agg (rawL (kdL nm tl tl fe fd fm)),rI 0]))
 (ht:tl=b.length)(hb1:1≤b.length)(hb2:b.length≤32)(hx:x.length≤1048576):PC Tryz.prog 88 [.agg (KeyT.cells (p,v,b)),rI u,.isl .u8 x] (.tup [.isl .u8 (smS (p,v,b) u x),rI 0]):=by
 unfold kdL at hu;have hkl:=j2K (p,v,b) u 153;have hb3:b.length≤64:=by omega
 have hd1:=z7a (p,v,b) u 153 hb3 hb1 (by decide)
 have hE:smS (p,v,b) u x=(hmS (dkS (p,v,b) u 153) x).take tl:=by rw [ht];rfl
 rw [hE];change _=b.length at hkl;generalize dkS (p,v,b) u 153=dk at*;have hk:=z8Z dk [x] (by omega) (by simp;omega) (by simp)
 rw [Cu] at hk;have hhl:=q9n dk x;generalize hmS dk x=hm at*;have hj:=j0n [hm.take tl] (by simp;omega) (by simp)
 rw [Cu] at hj;refine q0u rfl rfl ?_;refine rQ fi88 ?_;refine cQ hu ?_;refine cQ (z7P (p,v,b) u hb3) ?_;refine cQ hd1 ?_;refine q0A 2 ?_;with_reducible refine sxE ?_
 refine cy1 hk BP ?_;refine ⟨⟨by omega,Ae _,by omega⟩,?_⟩
 refine q0A 3 ?_;with_reducible refine sxE ?_
 refine cQ hj ?_;trivial
theorem q6W{k:Key}{u:Nat}(h:uOk k u=true):vKey k=true∧u≤1023∧((k.2.2.length:Nat):Int)=keyLen k.1∧k.2.2.length≤32∧(k.1=1→k.2.2.length=16)∧(k.1≠1→k.1=2∧k.2.2.length=32):=by
 unfold uOk at h;simp only [Aj,decide_eq_true_eq] at h;have hv:=h.1;unfold vKey at hv;simp only [Aj,decide_eq_true_eq] at hv;have h1:=hv.2.1;have h2:=hv.1;refine ⟨h.1,by omega,h1,?_⟩
 unfold keyLen at h1 h2
 grind
theorem j0k(k:Key)(u:Nat)(x:List UInt8)(ho:KeyT.ok k)(hu:uOk k u=true)(hx:x.length≤1048576):PC Tryz.prog 88 [.agg (KeyT.cells k),rI u,.isl .u8 x] (.tup [.isl .u8 (smS k u x),rI 0]):=by
 have hus:=z9k k u ho;rw [if_pos hu,if_pos hu] at hus;obtain ⟨_,_,_,_,h1,h2⟩:=q6W hu;obtain ⟨p,v,b⟩:=k;dsimp only at h1 h2;by_cases hp:p=1
 · subst hp;have:=h1 rfl;exact z0i name1 16 _ _ _ 1 v b u x hus (by omega) (by omega) (by omega) hx
 obtain ⟨rfl,hl⟩:=h2 hp;exact z0i name2 32 _ _ _ 2 v b u x hus (by omega) (by omega) (by omega) hx
theorem z7C(k:Key)(u:Nat)(x s:List UInt8)(ho:KeyT.ok k)(hu:uOk k u=true)(hx:x.length≤1048576)(hs:s.length≤1099511627776):PC Tryz.prog 114 [.agg (KeyT.cells k),rI u,.isl .u8 x,.isl .u8 s] (rI (if smS k u x=s then 0 else 10)):=by
 have h:=j0k k u x ho hu hx;obtain ⟨_,_,_,hl,_⟩:=q6W hu;have hm:=z8n (smS k u x) s (by rw [q5J k u x hl];omega) hs
 generalize smS k u x=w at*;obtain ⟨p,v,b⟩:=k;refine q0w rfl rfl ?_;refine rQ fi114 ?_;refine cQ h ?_;refine q0a hm ?_;by_cases e:w=s
 · rw [if_pos e,decide_eq_true e];refine gQ ?_;trivial
 rw [if_neg e,decide_eq_false e];refine gQ ?_;trivial
set_option maxHeartbeats 4000000
theorem z3n{v:Int}(h:0≤v∧v≤4611686018427387904):intS v≠ []:=by
 obtain ⟨c1,e1,_⟩:=q8a h;rw [e1];exact q2h
theorem z7u{k:Key}(h:vKey k=true):keyOk k:=by
 obtain ⟨a,v,c⟩:=k;simp only [vKey,keyLen,Aj,decide_eq_true_eq] at h;change Int at a v;obtain ⟨h1,h2,h3,h4⟩:=h;refine ⟨?_,⟨h3,Int.le_trans (show v≤(65535:Int) from h4) (by decide)⟩,?_⟩
 · split at h1
   · rename_i e;rw [e];decide
   split at h1
   · rename_i e;rw [e];decide
   exact absurd rfl h1
 split at h2
 · omega
 split at h2
 · omega
 omega
def pacL(p:Pac):List (List UInt8):=[prinE p.1,timeS p.2.1,intS p.2.2.1,listS (t:=I64) intS p.2.2.2.1,listS (t:=PrinT) prinE p.2.2.2.2]
theorem j0l{v:Int}(h:vNum v=true):0≤v∧v≤2147483647:=by
 simpa only [vNum,mIn,Aj,decide_eq_true_eq] using h
theorem j3z{l:List Int}(h:allN l.length (grpAt l)=true):∀x∈l,0≤x∧x≤2147483647:=fun x hx=>by
 obtain ⟨j,hj,rfl⟩:=AV hx;have h1:=q2e.1 h j hj;unfold grpAt at h1;rw [q5i hj] at h1;simp only [Aj] at h1;exact j0l h1.1
theorem j3q{l:List Int}(hl:l.length≤64)(hv:∀x∈l,0≤x∧x≤2147483647):(if listS (t:=I64) intS l= [] then l= [] else grpsP (listS (t:=I64) intS l)= .ok (l,(listS (t:=I64) intS l).length))∧(listS (t:=I64) intS l).length≤1000:=by
 have hi:∀x∈l,(0:Int)≤x∧x≤4611686018427387904:=fun x hx=>⟨(hv x hx).1,Int.le_trans (hv x hx).2 (by decide)⟩
 have hf:=flat_len intS 14 l fun x _=>q2c x;have h4:14*l.length≤14*64:=Cg _ hl;refine ⟨z6K (t:=I64) (p:=intP) (w:=intS) hl (fun x hx=>⟨z3n (hi x hx),q8J (hi x hx)⟩) (by omega),?_⟩
 have:=z2Y (t:=I64) (w:=intS) (l:=l) 14 fun x _=>q2c x;exact An this (by omega)
theorem j0x(p:Pac)(h:vPac p=true):pacS p=tlv 48 (sufS (pacL p) 0 5)∧(∀j,((pacL p).getD j []).length≤16777215)∧(sufS (pacL p) 0 5).length≤10000∧∀r,pacP (pacS p++r)= .ok (p,(pacS p).length):=by
 obtain ⟨c,a,u,g,w⟩:=p;simp only [vPac,Aj,decide_eq_true_eq,Ba] at h;obtain ⟨hc,ha,hu,hg1,hw1,hg,hw⟩:=h;change Int at a u;change List Int at g;change List Prin at w;have hg1:(g.length:Int)≤64:=hg1;have hw1:(w.length:Int)≤16:=hw1;obtain ⟨ps,psl,psn⟩:=q4H hc;obtain ⟨a,rfl,ga⟩:=j3p (show (0:Int)≤a∧a≤1099511627776 by simpa only [vTime,mIn,Aj,decide_eq_true_eq] using ha)
 have hu2:=j0l hu;have zn:(0:Int)≤u∧u≤4611686018427387904:=⟨hu2.1,Int.le_trans hu2.2 (by decide)⟩
 obtain ⟨gq,gl⟩:=j3q (l:=g) (by omega) (j3z hg)
 obtain ⟨wq,wl⟩:=j4A (l:=w) (by omega) hw
 have a1:timeS (a:Int)≠ []:=by rw [q7u (by omega)];exact q2h
 have a2:timeP (timeS (a:Int))= .ok (a,(timeS (a:Int)).length):=full (z8p ga);have a3:(timeS (a:Int)).length≤11:=by rw [q7u (by omega),q2v,q0P];decide
 have l2:=q2c u;have hL:∀j,((pacL (c,(a:Int),u,g,w)).getD j []).length≤16777215:=fun j=>by
  match j with
  |0=>exact An psl (by omega)
  |1=>show (timeS (a:Int)).length≤_;omega
  |2=>show (intS u).length≤_;omega
  |3=>exact An gl (by omega)
  |4=>exact An wl (by omega)
  |j+5=>exact Al _
 have hs:(sufS (pacL (c,(a:Int),u,g,w)) 0 5).length≤10000:=by
  refine An (q9p 5 0) ?_;show (prinE c).length+5+ ((timeS (a:Int)).length+5+ ((intS u).length+5+ ((listS (t:=I64) intS g).length+5+ ((listS (t:=PrinT) prinE w).length+5+0))))≤_;generalize (listS (t:=I64) intS g).length=x1 at*;generalize (listS (t:=PrinT) prinE w).length=x2 at*;generalize (prinE c).length=x3 at*;omega
 have hT:pacS (c,(a:Int),u,g,w)=tlv 48 (sufS (pacL (c,(a:Int),u,g,w)) 0 5):=by
  have h1:=z2A (l:=pacL (c,(a:Int),u,g,w)) (An hs (by omega))
  exact (show pacS (c,(a:Int),u,g,w)=tagS (pacL (c,(a:Int),u,g,w)) from rfl).trans h1
 have hin:pacIn (sufS (pacL (c,(a:Int),u,g,w)) 0 5)= .ok ((c,(a:Int),u,g,w),(sufS (pacL (c,(a:Int),u,g,w)) 0 5).length):=by
  unfold pacIn;refine q2H (n:=0) (k:=4) (q1J hL (by omega) psn (full ps)) ?_
  refine q2H (n:=1) (k:=3) (q1J hL (by omega) a1 a2) ?_
  refine q2H (n:=2) (k:=2) (q1J hL (by omega) (z3n zn) (full (q8J zn))) ?_
  refine q2H (n:=3) (k:=1) (z3R hL (by omega) gq) ?_
  refine q2H (n:=4) (k:=0) (z3R hL (by omega) wq) ?_
  rfl
 refine ⟨hT,hL,hs,fun r=> ?_⟩;rw [hT];exact q4p (by omega) hin r
theorem z2o{p:Pac}(h:vPac p=true):(pacS p).length≤10010∧pacS p≠ []:=by
 obtain ⟨h1,_,h3,_⟩:=j0x p h;rw [h1];refine ⟨?_,q2h⟩;rw [q2v];have:=q8F (sufS (pacL p) 0 5).length;omega
def sgnL(x:Sgd):List (List UInt8):=[pacS x.1,keyS x.2.1,keyS x.2.2]
theorem j3r(x:Sgd)(h:vSgn x=true):sgnS x=tlv 48 (sufS (sgnL x) 0 3)∧(∀j,((sgnL x).getD j []).length≤16777215)∧(sufS (sgnL x) 0 3).length≤200000∧∀r,sgP (sgnS x++r)= .ok (x,(sgnS x).length):=by
 obtain ⟨p,k1,k2⟩:=x;simp only [vSgn,Aj] at h;obtain ⟨h0,h1,h2⟩:=h;obtain ⟨pl,pn⟩:=z2o h0;have pp:=full (j0x p h0).2.2.2;have o1:=z7u h1;have o2:=z7u h2;have l1:=z5g o1;have l2:=z5g o2;have hL:∀j,((sgnL (p,k1,k2)).getD j []).length≤16777215:=fun j=>by
  match j with
  |0=>exact An pl (by omega)
  |1=>exact An l1 (by omega)
  |2=>exact An l2 (by omega)
  |j+3=>exact Al _
 have hs:(sufS (sgnL (p,k1,k2)) 0 3).length≤200000:=by
  refine An (q9p 3 0) ?_;show (pacS p).length+5+ ((keyS k1).length+5+ ((keyS k2).length+5+0))≤_;generalize (pacS p).length=x1 at*;generalize (keyS k1).length=x2 at*;generalize (keyS k2).length=x3 at*;omega
 have hT:sgnS (p,k1,k2)=tlv 48 (sufS (sgnL (p,k1,k2)) 0 3):=by
  have h1:=z2A (l:=sgnL (p,k1,k2)) (An hs (by omega))
  exact (show sgnS (p,k1,k2)=tagS (sgnL (p,k1,k2)) from rfl).trans h1
 have hin:sgIn (sufS (sgnL (p,k1,k2)) 0 3)= .ok ((p,k1,k2),(sufS (sgnL (p,k1,k2)) 0 3).length):=by
  unfold sgIn;refine q2H (n:=0) (k:=2) (q1J hL (by omega) pn pp) ?_
  refine q2H (n:=1) (k:=1) (q1J hL (by omega) (z5B o1) (full (z4Y o1))) ?_
  refine q2H (n:=2) (k:=0) (q1J hL (by omega) (z5B o2) (full (z4Y o2))) ?_
  rfl
 refine ⟨hT,hL,hs,fun r=> ?_⟩;rw [hT];exact q4p (by omega) hin r
theorem z3w{x:Sgd}(h:vSgn x=true):decSg (sgnS x)=some x:=by
 have hx:=full (j3r x h).2.2.2;unfold decSg allP;rw [hx];simp [h]
theorem z4D{b:List UInt8}{x:Sgd}(h:decSg b=some x):vSgn x=true∧sgnS x=b:=by
 unfold decSg at h;split at h
 · split at h
   · rename_i h2;cases h;exact h2
   cases h
 cases h
set_option maxHeartbeats 40000000
theorem j0o(k:Key)(u:Nat)(x:List UInt8)(ho:KeyT.ok k)(hu:uOk k u=true)(hx:x.length≤1048576):PC Tryz.prog 44 [.agg (KeyT.cells k),rI u,.isl .u8 x] (.agg [rI k.1,rI k.2.1,.isl .u8 (smS k u x)]):=by
 have h:=j0k k u x ho hu hx;generalize smS k u x=w at*;obtain ⟨p,v,b⟩:=k;refine q0w rfl rfl ?_;refine rQ fi44 ?_;refine cQ h ?_;trivial
def noK(k:Key):Bool:=decide (k.1=0) && (decide (k.2.1=0) && decide (k.2.2.length=0))
theorem z1N(k:Key):PC Tryz.prog 50 [.agg (KeyT.cells k)] (rB (noK k)):=by
 obtain ⟨p,v,b⟩:=k;refine q0w rfl rfl ?_;refine rQ fi50 ?_
 grind [noK]
def fitK(k s:Key):Bool:=decide (s.1=k.1) && (decide (s.2.1=k.2.1) || (decide (s.2.1=0) ||decide (k.2.1=0)))
def rightB(k:Key)(u:Nat)(x:List UInt8)(s:Key):Bool:=noK k|| (fitK k s&& decide (smS k u x=s.2.2))
theorem z3M(k:Key)(u:Nat)(x:List UInt8)(s:Key)(ho:KeyT.ok k)(hu:noK k=false→uOk k u=true)(hx:x.length≤1048576)(hs:s.2.2.length≤1099511627776):PC Tryz.prog 55 [.agg (KeyT.cells k),rI u,.isl .u8 x,.agg (KeyT.cells s)] (rB (rightB k u x s)):=by
 have hn:=z1N k;unfold rightB;cases hk:noK k with
 |true=>
  rw [hk] at hn;obtain ⟨p,v,b⟩:=k;refine q0w rfl rfl ?_;refine rQ fi55 ?_;refine cQ hn ?_;trivial
 |false=>
  rw [hk] at hn;have hv:=z7C k u x s.2.2 ho (hu hk) hx hs;generalize smS k u x=w at*;clear hu hk ho;obtain ⟨p,v,b⟩:=k;obtain ⟨sp,sv,sb⟩:=s;dsimp only at hv hs;have hve:(if w=sb then (0:Int) else 10)=0 ↔ w=sb:=by split<;>simp_all
  generalize (if w=sb then (0:Int) else 10)=z at*;unfold fitK;refine q0w rfl rfl ?_;refine rQ fi55 ?_;refine cQ hn ?_<;>try with_reducible exact True.intro
  repeat' (first
   | (refine q0a (hv) ?_;refine uQ 600 _ ?_;simp (maxSteps:=3000000) only [go_sem,↓zA,↓reduceIte,↓reduceDIte] <;>try simp only [zB])
   | (refine q0k (hv) ?_;refine uQ 600 _ ?_;simp (maxSteps:=3000000) only [go_sem,↓zA,↓reduceIte,↓reduceDIte] <;>try simp only [zB])
   | (refine q0H (hv) ?_;refine uQ 600 _ ?_;simp (maxSteps:=3000000) only [go_sem,↓zA,↓reduceIte,↓reduceDIte] <;>try simp only [zB])
   | (with_reducible refine And.intro ?_ ?_)
   | (with_reducible intro _))
  all_goals (grind)
theorem z3L{k:Key}{u:Int}(h:vKey k=true)(hu:1≤u∧u≤1023):uOk k u=true:=by
 unfold uOk;simp [h,hu.1,hu.2]
theorem q3i{k:Key}(h:vKey k=true):k.2.2.length≤32∧((k.2.2.length:Nat):Int)=keyLen k.1:=by
 have:=q6W (u:=1) (z3L h (by decide))
 exact ⟨this.2.2.2.1,this.2.2.1⟩
def sigK(k:Key)(u:Nat)(x:List UInt8):Key:=(k.1,k.2.1,smS k u x)
theorem j0I{k:Key}(u:Nat)(x:List UInt8)(h:vKey k=true):vKey (sigK k u x)=true:=by
 have hl:=q3i h;have hs:=q5J k u x hl.1;unfold vKey at*;simp only [Aj,decide_eq_true_eq] at*;refine ⟨h.1,?_,h.2.2⟩;show ((smS k u x).length:Int)=keyLen k.1;rw [hs];exact hl.2
theorem z7c{k:Key}(u:Nat)(x:List UInt8)(h:vKey k=true):KeyT.ok (sigK k u x):=by
 have hl:=q3i h;have hs:=q5J k u x hl.1;exact ⟨trivial,trivial,⟨show (smS k u x).length≤1125899906842624 by omega,fun _ _=>trivial⟩⟩
def signX(p:Pac)(s r:Key):Sgd:=(p,sigK s 17 (pacS p),sigK r 18 (smS s 17 (pacS p)))
theorem z2r{p:Pac}{s r:Key}(h:vPac p=true)(hs:vKey s=true)(hr:vKey r=true):vSgn (signX p s r)=true:=by
 unfold vSgn;rw [show (signX p s r).1=p from rfl,show (signX p s r).2.1=sigK s 17 (pacS p) from rfl,show (signX p s r).2.2=sigK r 18 (smS s 17 (pacS p)) from rfl,h,j0I _ _ hs,j0I _ _ hr]
 rfl
def signS(p:Pac)(s r:Key):List UInt8×Int:=if vPac p&& (vKey s&& vKey r) then (if 4096< (sgnS (signX p s r)).length then ([],5) else (sgnS (signX p s r),0)) else ([],2)
theorem z7R(p:Pac)(s r:Key)(ho:PacT.ok p)(hs:KeyT.ok s)(hr:KeyT.ok r):PC Tryz.prog 13 [.agg (PacT.cells p),.agg (KeyT.cells s),.agg (KeyT.cells r)] (.tup [.isl .u8 (signS p s r).1,rI (signS p s r).2]):=by
 have c1:=q3X p ho;have c2:=q6y s;have c3:=q6y r;have c4:=q3Y p ho;unfold signS;cases h1:vPac p with
 |false=>
  rw [h1] at c1;obtain ⟨c,a,u,g,w⟩:=p;refine q0u rfl rfl ?_;refine rQ fi13 ?_;refine cQ c1 ?_;trivial
 |true=>
 cases h2:vKey s with
 |false=>
  rw [h1] at c1;rw [h2] at c2;obtain ⟨c,a,u,g,w⟩:=p;obtain ⟨s1,s2,s3⟩:=s;refine q0u rfl rfl ?_;refine rQ fi13 ?_;refine cQ c1 ?_;refine cQ c2 ?_;trivial
 |true=>
 cases h3:vKey r with
 |false=>
  rw [h1] at c1;rw [h2] at c2;rw [h3] at c3;obtain ⟨c,a,u,g,w⟩:=p;obtain ⟨s1,s2,s3⟩:=s;obtain ⟨r1,r2,r3⟩:=r;refine q0u rfl rfl ?_;refine rQ fi13 ?_;refine cQ c1 ?_;refine cQ c2 ?_;refine cQ c3 ?_;trivial
 |true=>
  have hsl:=q5J s 17 (pacS p) (q3i h2).1;have hs32:=(q3i h2).1;have hpl:=(z2o h1).1;have c5:=j0o s 17 (pacS p) hs (z3L h2 (by decide)) (by omega)
  have c6:=j0o r 18 (smS s 17 (pacS p)) hr (z3L h3 (by decide)) (by omega)
  have c7:=j0j (signX p s r) ⟨ho,z7c _ _ h2,z7c _ _ h3⟩ (z2r h1 h2 h3);have hX:signX p s r=(p,(s.1,s.2.1,smS s 17 (pacS p)),(r.1,r.2.1,smS r 18 (smS s 17 (pacS p)))):=rfl;generalize sgnS (signX p s r)=y at*;rw [hX] at c7;clear hX;rw [h1] at c1;rw [h2] at c2;rw [h3] at c3;have c4:=c4 h1;generalize pacS p=w at*;generalize smS s 17 w=m1 at*;generalize smS r 18 m1=m2 at*;obtain ⟨c,a,u,g,w⟩:=p;obtain ⟨s1,s2,s3⟩:=s;obtain ⟨r1,r2,r3⟩:=r;refine q0u rfl rfl ?_;refine rQ fi13 ?_;refine cQ c1 ?_;refine cQ c2 ?_;refine cQ c3 ?_;refine cR c4 ?_;refine cR c5 ?_;refine cQ c6 ?_;refine cQ c7 ?_;refine ⟨fun h=> ?_,fun h=> ?_⟩
  · rw [if_pos (show 4096<y.length by omega)]
    exact ⟨rfl,rfl⟩
  rw [if_neg (show ¬4096<y.length by omega)]
  exact ⟨rfl,rfl⟩
def argK(k:Key):Bool:=noK k||vKey k
theorem j0F{k:Key}{u:Nat}(h:argK k=true)(hu:1≤u∧u≤1023):noK k=false→uOk k u=true:=fun hn=>by
 unfold argK at h;rw [hn,Bool.false_or] at h;exact z3L h ⟨by omega,by omega⟩
def vfyS(b:List UInt8)(s r:Key):Pac×Int:=if argK s&& argK r then (match decSg b with
 |none=>(PacT.dflt,6)
 |some x=>if rightB s 17 (pacS x.1) x.2.1 then (if rightB r 18 x.2.1.2.2 x.2.2 then (x.1,0) else (PacT.dflt,231)) else (PacT.dflt,230)) else (PacT.dflt,2)
theorem j4v(x:Sgd)(s:Key)(ho:SgT.ok x)(hv:vSgn x=true)(hs:KeyT.ok s)(ha:argK s=true):PC Tryz.prog 54 [.agg (SgT.cells x),.iptr KeyT s 0] (rB (rightB s 17 (pacS x.1) x.2.1)):=by
 simp only [vSgn,Aj] at hv;have h1:=q3Y x.1 ho.1 hv.1;have h2:=z3M s 17 (pacS x.1) x.2.1 hs (j0F ha (by decide)) (by have:=(z2o hv.1).1;omega) (by have:=(q3i hv.2.1).1;omega)
 generalize rightB s 17 (pacS x.1) x.2.1=q at*;clear hv;generalize pacS x.1=w at*;obtain ⟨⟨c,a,u,g,w⟩,⟨p1,p2,p3⟩,⟨q1,q2,q3⟩⟩:=x;obtain ⟨s1,s2,s3⟩:=s;refine q0w rfl rfl ?_;refine rQ fi54 ?_;refine cR h1 ?_;refine cR h2 ?_;trivial
theorem j4z(x:Sgd)(r:Key)(hv:vSgn x=true)(hr:KeyT.ok r)(ha:argK r=true):PC Tryz.prog 56 [.agg (SgT.cells x),.iptr KeyT r 0] (rB (rightB r 18 x.2.1.2.2 x.2.2)):=by
 simp only [vSgn,Aj] at hv;have h2:=z3M r 18 x.2.1.2.2 x.2.2 hr (j0F ha (by decide)) (by have:=(q3i hv.2.1).1;omega) (by have:=(q3i hv.2.2).1;omega)
 generalize rightB r 18 x.2.1.2.2 x.2.2=q at*;clear hv;obtain ⟨⟨c,a,u,g,w⟩,⟨p1,p2,p3⟩,⟨q1,q2,q3⟩⟩:=x;obtain ⟨s1,s2,s3⟩:=r;refine q0w rfl rfl ?_;refine rQ fi56 ?_;refine cQ h2 ?_;trivial
theorem q7z{b:List UInt8}(hb:b.length≤1099511627776)(x:Sgd)(h:decSg b=some x):SgT.ok x∧vSgn x=true:=by
 refine ⟨?_,(z4D h).1⟩;unfold decSg allP at h;cases hx:sgP b with
 |error e=>rw [hx] at h;cases h
 |ok y=>
  obtain ⟨f,m⟩:=y;rw [hx] at h;dsimp only at h;split at h
  · rename_i heq;split at heq
    · cases heq
    cases heq;split at h
    · cases h;exact j0i b _ _ hb hx
    cases h
  cases h
theorem q4d(b:List UInt8)(s r:Key)(hb:b.length≤1099511627776)(hs:KeyT.ok s)(hr:KeyT.ok r):PC Tryz.prog 15 [.isl .u8 b,.agg (KeyT.cells s),.agg (KeyT.cells r)] (.tup [.agg (PacT.cells (vfyS b s r).1),rI (vfyS b s r).2]):=by
 have n1:=z1N s;have n2:=z1N r;have v1:=q6y s;have v2:=q6y r;have hd:=z3Z b hb;obtain ⟨Y,hY⟩:∃Y,Y=vfyS b s r:=⟨_,rfl⟩;rw [←hY];unfold vfyS at hY;have hva:=fun x hv=>j4v x s (q7z hb x hv).1 (q7z hb x hv).2 hs;have hvb:=fun x hv=>j4z x r (q7z hb x hv).2 hr;have e0:((0:Nat):Int)=0:=rfl;have e1:((1:Nat):Int)=1:=rfl;have hs':=hs;have hr':=hr;obtain ⟨s1,s2,s3⟩:=s;obtain ⟨r1,r2,r3⟩:=r;refine q0u rfl rfl ?_;refine q4s fi15 ?_;refine uQ 5 _ ?_;with_reducible refine sxE ?_
 refine q3L 4 0 (ty:=KeyT) (x:=(s1,s2,s3)) rfl hs' rfl rfl ?_;refine q3L 5 1 (ty:=KeyT) (x:=(r1,r2,r3)) rfl hr' rfl rfl ?_;refine gQ ?_;refine q0Q (fun i=>[(18,rI (i:Nat))]) 2 (fun j=>argK (if j=0 then (s1,s2,s3) else (r1,r2,r3))=true) (by first|decide|simp) (fun i=>rfl) ?_ fun i hi hall=> ?_
 · with_reducible refine sxE ?_;trivial
 have hwr:=wsx i (by omega)
 by_cases h0:i=0
 · subst h0;refine gy1 e0 ?_;refine q0a n1 ?_;cases hn:noK (s1,s2,s3) with
   |true=>
    have ha:argK (s1,s2,s3)=true:=by unfold argK;rw [hn,CI]
    refine gQ ?_;refine ⟨by decide,fun j hj=> ?_,⟨[_],rfl⟩,?_⟩
    · rw [if_pos (show j=0 by omega)];exact ha
    with_reducible refine sxE ?_
    rfl
   |false=>
    refine gQ ?_;refine q0a v1 ?_;cases hv:vKey (s1,s2,s3) with
    |true=>
     have ha:argK (s1,s2,s3)=true:=by unfold argK;rw [hv,B8]
     refine gQ ?_;refine ⟨by decide,fun j hj=> ?_,⟨[_],rfl⟩,?_⟩
     · rw [if_pos (show j=0 by omega)];exact ha
     with_reducible refine sxE ?_
     rfl
    |false=>
     have ha:argK (s1,s2,s3)=false:=by unfold argK;rw [hn,hv];rfl
     refine gQ ?_;rw [ha,AR] at hY;rw [hY];exact ⟨⟨rfl,rfl,rfl,rfl,rfl,rfl⟩,rfl⟩
 by_cases h1:i=1
 · subst h1;refine gy1 e1 ?_;refine q0a n2 ?_;cases hn:noK (r1,r2,r3) with
   |true=>
    have ha:argK (r1,r2,r3)=true:=by unfold argK;rw [hn,CI]
    refine gQ ?_;refine ⟨by decide,fun j hj=> ?_,⟨[_],rfl⟩,?_⟩
    · exact if hj0:j=0 then hall j (by omega) else by rw [if_neg hj0];exact ha
    with_reducible refine sxE ?_
    rfl
   |false=>
    refine gQ ?_;refine q0a v2 ?_;cases hv:vKey (r1,r2,r3) with
    |true=>
     have ha:argK (r1,r2,r3)=true:=by unfold argK;rw [hv,B8]
     refine gQ ?_;refine ⟨by decide,fun j hj=> ?_,⟨[_],rfl⟩,?_⟩
     · exact if hj0:j=0 then hall j (by omega) else by rw [if_neg hj0];exact ha
     with_reducible refine sxE ?_
     rfl
    |false=>
     have ha:argK (r1,r2,r3)=false:=by unfold argK;rw [hn,hv];rfl
     refine gQ ?_;rw [ha,BE] at hY;rw [hY];exact ⟨⟨rfl,rfl,rfl,rfl,rfl,rfl⟩,rfl⟩
 obtain rfl:i=2:=by omega
 have ha:=hall 0 (by omega)
 have hb2:=hall 1 (by omega)
 rw [if_pos rfl] at ha;rw [if_neg (by decide)] at hb2
 have e2:((2:Nat):Int)=2:=rfl;rw [ha,hb2,BA,if_pos rfl] at hY;clear hall hwr h0 h1;refine gy1 e2 ?_;cases hx:decSg b with
 |none=>
  rw [hx] at hY hd;dsimp only at hY;rw [hY];refine q0a hd ?_;refine uQ 600 _ ?_;simp (maxSteps:=3000000) only [Option.isSome_none,go_sem,↓zA,↓reduceIte,↓reduceDIte] <;>try simp only [zB]
  exact ⟨rfl,rfl,rfl,rfl,rfl,rfl⟩
 |some x=>
  rw [hx] at hY hd;have c1:=hva x hx ha;have c2:=hvb x hx hb2;dsimp only at hY;generalize rightB (s1,s2,s3) 17 (pacS x.1) x.2.1=g1 at*;generalize rightB (r1,r2,r3) 18 x.2.1.2.2 x.2.2=g2 at*;clear hva hvb;obtain ⟨⟨c,a,u,g,w⟩,⟨p1,p2,p3⟩,⟨q1,q2,q3⟩⟩:=x;have hd:PC Tryz.prog 51 _ (.tup [.agg (SgT.cells ((c,a,u,g,w),(p1,p2,p3),(q1,q2,q3))),rI 0]):=hd;refine cQ hd ?_;refine q0Q (fun i=>[(45,rI (i:Nat))]) 2 (fun j=>(if j=0 then g1 else g2)=true) (by first|decide|simp) (fun i=>rfl) ?_ fun i hi hall=> ?_
  · with_reducible refine sxE ?_;trivial
  by_cases h0:i=0
  · subst h0;refine gy1 e0 ?_;refine q0a c1 ?_;cases g1 with
    |false=>
     rw [hY];refine gQ ?_;exact ⟨rfl,rfl,rfl,rfl,rfl,rfl⟩
    |true=>
     refine gQ ?_;refine ⟨by decide,fun j hj=> ?_,⟨[],rfl⟩,?_⟩
     · rw [if_pos (show j=0 by omega)]
     with_reducible refine sxE ?_
     rfl
  by_cases h1:i=1
  · subst h1;have hg:=hall 0 (by omega)
    rw [if_pos rfl] at hg;rw [hg] at hY;refine gy1 e1 ?_;refine q0a c2 ?_;cases g2 with
    |false=>
     rw [hY];refine gQ ?_;exact ⟨rfl,rfl,rfl,rfl,rfl,rfl⟩
    |true=>
     refine gQ ?_;refine ⟨by decide,fun j hj=> ?_,⟨[],rfl⟩,?_⟩
     · exact if hj0:j=0 then hall j (by omega) else by rw [if_neg hj0]
     with_reducible refine sxE ?_
     rfl
  obtain rfl:i=2:=by omega
  have hg:=hall 0 (by omega)
  have hg2:=hall 1 (by omega)
  rw [if_pos rfl] at hg;rw [if_neg (by decide)] at hg2
  rw [hg,hg2] at hY;rw [hY];refine gy1 e2 ?_;trivial
set_option maxHeartbeats 4000000
def gA(g:List Int)(j:Nat):Int:=g.getD j (Ty.dflt I64)
def lastG(g:List Int)(i:Nat):Int:=if i=0 then -1 else gA g (i-1)
def rgAt(g:List Int)(j:Nat):Bool:=decide (lastG g j<gA g j) && decide (gA g j≤2147483647)
theorem j1b(g:List Int)(j:Nat):grpAt g j=(vNum (gA g j) && (decide (j=0) ||decide (gA g (j-1) <gA g j))):=rfl
theorem z1s{g:List Int}{j:Nat}(h:¬j=0):lastG g j=gA g (j-1):=by unfold lastG;rw [if_neg h]
theorem q6f{g:List Int}{j:Nat}:rgAt g j=true ↔ lastG g j<gA g j∧gA g j≤2147483647:=by simp [rgAt]
theorem z1j{g:List Int}{j:Nat}:grpAt g j=true ↔ (0≤gA g j∧gA g j≤2147483647)∧(j=0∨gA g (j-1) <gA g j):=by
 rw [j1b];simp [vNum,mIn]
theorem j4l(g:List Int)(n:Nat):allN n (rgAt g)=allN n (grpAt g):=by
 rw [BF,q2e,q2e];constructor
 · intro h;have h0:∀j,j<n→0≤gA g j:=fun j=>by
    induction j with
    |zero=>intro hj;have h1:=(q6f.1 (h 0 hj)).1;rw [show lastG g 0= -1 from rfl] at h1;omega
    |succ j ih=>intro hj;have h1:=(q6f.1 (h (j+1) hj)).1;have h2:=ih (by omega);rw [z1s (by omega),BK] at h1;omega
   intro j hj;have h1:=q6f.1 (h j hj);refine z1j.2 ⟨⟨h0 j hj,h1.2⟩,?_⟩;by_cases e:j=0
   · exact .inl e
   rw [z1s e] at h1;exact .inr h1.1
 intro h j hj;have h1:=z1j.1 (h j hj);refine q6f.2 ⟨?_,h1.1.2⟩;by_cases e:j=0
 · subst e;show (-1:Int) <_;omega
 rw [z1s e];exact h1.2.resolve_left e
theorem z1T(p:Pac)(ho:PacT.ok p):PC Tryz.prog 21 [.agg (PacT.cells p)] (rB (vPac p)):=by
 obtain ⟨c,a,u,g,w⟩:=p;obtain ⟨o1,_,_,o4,o5⟩:=ho;have hd:vPac (c,a,u,g,w)=(allN g.length (rgAt g) && (w.all vPrin&& (vPrin c&& (inR a 0 1099511627776&& (inR u 0 2147483647&& (decide ((g.length:Int)≤64) && decide ((w.length:Int)≤16))))))):=by
  rw [j4l];show (vPrin c&& (vTime a&& (vNum u&& (decide ((g.length:Int)≤64) && (decide ((w.length:Int)≤16) && (allN g.length (grpAt g) && w.all vPrin))))))=_;rw [show vTime a=inR a 0 1099511627776 from rfl,show vNum u=inR u 0 2147483647 from rfl]
  generalize allN g.length (grpAt g)=x1;generalize w.all vPrin=x2;generalize vPrin c=x3;generalize inR a 0 1099511627776=x4;generalize inR u 0 2147483647=x5;generalize decide ((g.length:Int)≤64)=x6;generalize decide ((w.length:Int)≤16)=x7;cases x1<;>cases x2<;>cases x3<;>cases x4<;>cases x5<;>cases x6<;>cases x7<;>rfl
 rw [hd];clear hd;have hgl:List.length g≤1125899906842624:=o4.1;have hwl:List.length w≤1125899906842624:=o5.1;refine q0w rfl rfl ?_;refine rQ fi21 ?_;refine q0Q (fun i=>[(3,rI (lastG g i)),(4,.raw (.int .i64 ((i:Nat):Int)))]) (List.length g) (fun j=>(rgAt g) j=true) (by first|decide|simp) (fun i=>rfl) ?_ fun i hi hall=> ?_
 · (with_reducible refine sxE ?_<;>try exact True.intro)
   all_goals (try rfl)
 have hwr:=wsx i (by omega)
 refine gQ ?_;have bad:i< (List.length g)→(rgAt g) i=false→allN (List.length g) (rgAt g)=false:=fun hlt hv=>q0l hlt hv;have fin:¬i< (List.length g)→allN (List.length g) (rgAt g)=true:=fun h=>q0q fun j hj=>hall j (by omega)
 try dsimp only at bad fin hall
 have hgd:rgAt g i=(decide (lastG g i<gA g i) && decide (gA g i≤2147483647)):=rfl;have hls:lastG g (i+1)=gA g i:=by unfold lastG;rw [if_neg (by omega),BK]
 have hga:gA g i=g.getD i (Ty.dflt I64):=rfl;rw [←hga];refine ⟨fun hlt=>⟨⟨by omega,hlt⟩,fun h1=>⟨⟨by omega,hlt⟩,fun h2=> ?_,fun h2=>⟨⟨by omega,hlt⟩,hlt,q0I hall (by rw [hgd,decide_eq_true (Int.not_le.1 h1),decide_eq_true (CZ.1 h2)];rfl),⟨[],rfl⟩,?_⟩⟩,fun h1=> ?_⟩,fun hge=> ?_⟩
 · rw [bad hlt (by rw [hgd,decide_eq_false (show ¬gA g i≤2147483647 from Int.not_le.2 h2),BE]),AR]
 · with_reducible refine sy2 hwr hls ?_;trivial
 · rw [bad hlt (by rw [hgd,decide_eq_false (CZ.2 h1),AR]),AR]
 rw [fin hge,AE];clear hall bad fin hgd hls hga;have hall2:allN (List.length w) (fun j=>vPrin (w.getD j PrinT.dflt))=List.all w vPrin:=by
  rw [BF,q2e,Ba];constructor
  · intro h x hx;obtain ⟨j,hj,rfl⟩:=AV hx;have:=h j hj;rwa [q5i hj] at this
  intro h j hj;exact h _ (q0O hj)
 rw [←hall2];refine q0Q (fun k=>[(5,.raw (.int .i64 ((k:Nat):Int)))]) (List.length w) (fun j=>(fun j=>vPrin (w.getD j PrinT.dflt)) j=true) (by first|decide|simp) (fun i=>rfl) ?_ fun k hik hallk=> ?_
 · (with_reducible refine sxE ?_<;>try exact True.intro)
   all_goals (try rfl)
 have hwrk:=wsx k (by omega)
 refine gQ ?_;have badk:k< (List.length w)→(fun j=>vPrin (w.getD j PrinT.dflt)) k=false→allN (List.length w) (fun j=>vPrin (w.getD j PrinT.dflt))=false:=fun hlt hv=>q0l hlt hv;have fink:¬k< (List.length w)→allN (List.length w) (fun j=>vPrin (w.getD j PrinT.dflt))=true:=fun h=>q0q fun j hj=>hallk j (by omega)
 try dsimp only at badk fink hallk
 refine ⟨fun hlt=>⟨⟨by omega,hlt⟩,q0a (j2m _ (o5.2 _ (q0O hlt))) ?_⟩,fun hge=>q0a (j2m c o1) ?_⟩
 · cases hn:vPrin (w.getD k PrinT.dflt) with
   |false=>
    refine gQ ?_;rw [badk hlt hn];rfl
   |true=>
    refine gQ ?_;refine ⟨hlt,q0I hallk hn,⟨[],rfl⟩,?_⟩;with_reducible refine sx1 hwrk ?_;trivial
 rw [fink hge,AE];refine gQ ?_<;>try with_reducible exact True.intro
 repeat' (first
  | (refine q0a (z8s _ _ _) ?_;refine uQ 600 _ ?_;simp (maxSteps:=3000000) only [go_sem,↓zA,↓reduceIte,↓reduceDIte] <;>try simp only [zB])
  | (refine q0k (z8s _ _ _) ?_;refine uQ 600 _ ?_;simp (maxSteps:=3000000) only [go_sem,↓zA,↓reduceIte,↓reduceDIte] <;>try simp only [zB])
  | (refine q0H (z8s _ _ _) ?_;refine uQ 600 _ ?_;simp (maxSteps:=3000000) only [go_sem,↓zA,↓reduceIte,↓reduceDIte] <;>try simp only [zB])
  | (with_reducible refine And.intro ?_ ?_)
  | (with_reducible intro _))
 all_goals (grind)
set_option maxHeartbeats 40000000
theorem j1Q(c c':Prin)(a a' u u':Int)(g g':List Int)(w w':List Prin):decide (((c,a,u,g,w):Pac)=(c',a',u',g',w'))=(decide (g.length=g'.length) && (decide (w.length=w'.length) && (allN g.length (eqAt g g' (Ty.dflt I64)) && (allN w.length (eqAt w w' PrinT.dflt) && (decide (c=c') && (decide (a=a') && decide (u=u'))))))):=by
 have k1:=sameN g g' (Ty.dflt I64);have k2:=sameN w w' PrinT.dflt;rw [BF];simp only [decide_eq_true_eq,Aj,Prod.mk.injEq];constructor
 · rintro ⟨h1,h2,h3,h4,h5⟩;have h4:=k1.1 h4;have h5:=k2.1 h5;exact ⟨h4.1,h5.1,h4.2,h5.2,h1,h2,h3⟩
 rintro ⟨h1,h2,h3,h4,h5,h6,h7⟩;exact ⟨h5,h6,h7,k1.2 ⟨h1,h3⟩,k2.2 ⟨h2,h4⟩⟩
theorem z4o(p q:Pac)(ho:PacT.ok p):PC Tryz.prog 18 [.agg (PacT.cells p),.agg (PacT.cells q)] (rB (decide (p=q))):=by
 obtain ⟨c,a,u,g,w⟩:=p;obtain ⟨c',a',u',g',w'⟩:=q;obtain ⟨o1,_,_,o4,o5⟩:=ho;have hgl:List.length g≤1125899906842624:=o4.1;have hwl:List.length w≤1125899906842624:=o5.1;rw [show rB (decide (((c,a,u,g,w):Pac)=(c',a',u',g',w')))=_ from congrArg (fun b=>rB b) (j1Q c c' a a' u u' g g' w w')]
 refine q0w rfl rfl ?_;refine rQ fi18 ?_;refine ⟨fun h1=>⟨fun h2=> ?_,fun h2=> ?_⟩,fun h1=> ?_⟩
 · rw [decide_eq_false (show ¬List.length w=List.length w' by omega),AR,BE]
 rotate_left
 · rw [decide_eq_false (show ¬List.length g=List.length g' by omega),AR]
 have hlg:List.length g=List.length g':=by omega
 have hlw:List.length w=List.length w':=by omega
 rw [decide_eq_true hlg,decide_eq_true hlw,AE,AE];refine q0Q (fun i=>[(5,.raw (.int .i64 ((i:Nat):Int)))]) (List.length g) (fun j=>(eqAt g g' (Ty.dflt I64)) j=true) (by first|decide|simp) (fun i=>rfl) ?_ fun i hi hall=> ?_
 · (with_reducible refine sxE ?_<;>try exact True.intro)
   all_goals (try rfl)
 have hwr:=wsx i (by omega)
 refine gQ ?_;have bad:i< (List.length g)→(eqAt g g' (Ty.dflt I64)) i=false→allN (List.length g) (eqAt g g' (Ty.dflt I64))=false:=fun hlt hv=>q0l hlt hv;have fin:¬i< (List.length g)→allN (List.length g) (eqAt g g' (Ty.dflt I64))=true:=fun h=>q0q fun j hj=>hall j (by omega)
 try dsimp only at bad fin hall
 have hgd:eqAt g g' (Ty.dflt I64) i=decide (g.getD i (Ty.dflt I64)=g'.getD i (Ty.dflt I64)):=rfl;refine ⟨fun hlt=>⟨⟨by omega,hlt⟩,⟨by omega,by omega⟩,fun h=> ?_,fun h=>⟨hlt,q0I hall ?_,⟨[],rfl⟩,?_⟩⟩,fun hge=> ?_⟩
 · rw [bad hlt (hgd.trans (decide_eq_false h)),AR]
 · exact hgd.trans (decide_eq_true h)
 · with_reducible refine sx1 hwr ?_;trivial
 rw [fin hge,AE];clear hall bad fin hgd;refine q0Q (fun k=>[(6,.raw (.int .i64 ((k:Nat):Int)))]) (List.length w) (fun j=>(eqAt w w' PrinT.dflt) j=true) (by first|decide|simp) (fun i=>rfl) ?_ fun k hik hallk=> ?_
 · (with_reducible refine sxE ?_<;>try exact True.intro)
   all_goals (try rfl)
 have hwrk:=wsx k (by omega)
 refine gQ ?_;have badk:k< (List.length w)→(eqAt w w' PrinT.dflt) k=false→allN (List.length w) (eqAt w w' PrinT.dflt)=false:=fun hlt hv=>q0l hlt hv;have fink:¬k< (List.length w)→allN (List.length w) (eqAt w w' PrinT.dflt)=true:=fun h=>q0q fun j hj=>hallk j (by omega)
 try dsimp only at badk fink hallk
 have hgd:eqAt w w' PrinT.dflt k=decide (w.getD k PrinT.dflt=w'.getD k PrinT.dflt):=rfl;refine ⟨fun hlt=>⟨⟨by omega,hlt⟩,⟨by omega,by omega⟩,q0k (j2r (w.getD k PrinT.dflt) (w'.getD k PrinT.dflt) (o5.2 _ (q0O hlt))) ?_⟩,fun hge=>q0a (j2r c c' o1) ?_⟩
 · cases hn:decide (w.getD k PrinT.dflt=w'.getD k PrinT.dflt) with
   |false=>
    refine gQ ?_;rw [badk hlt (hgd.trans hn),AR]
   |true=>
    refine gQ ?_;refine ⟨hlt,q0I hallk (hgd.trans hn),⟨[],rfl⟩,?_⟩;with_reducible refine sx1 hwrk ?_;trivial
 rw [fink hge,AE];refine gQ ?_;exact ⟨fun e1=>⟨fun e2=>by rw [decide_eq_true e1,decide_eq_true e2,AE,AE],fun e2=>by rw [decide_eq_false e2,AR,BE]⟩,fun e1=>by rw [decide_eq_false e1,AR]⟩
theorem j2u(p:Pac)(c:Prin)(t:Int)(ho:PacT.ok p)(hc:PrinT.ok c):PC Tryz.prog 28 [.agg (PacT.cells p),.agg (PrinT.cells c),rI t] (rI (bindS p c t)):=by
 have h1:=z1T p ho;have h2:=j2m c hc;have h3:=j2r p.1 c ho.1;have h4:=z8s t 0 1099511627776;have hv:inR t 0 1099511627776=vTime t:=rfl;rw [hv] at h4;unfold bindS;generalize vPac p=x at*;generalize vPrin c=y at*;generalize vTime t=z at*;obtain ⟨c',a,u,g,w⟩:=p;obtain ⟨k,r⟩:=c;dsimp only at h3;refine q0w rfl rfl ?_;refine rQ fi28 ?_;refine q0a h1 ?_;cases x with
 |false=>
  refine gQ ?_;trivial
 |true=>
 refine gQ ?_;refine q0a h2 ?_;cases y with
 |false=>
  refine gQ ?_;trivial
 |true=>
 refine gQ ?_;refine q0a h4 ?_;cases z with
 |false=>
  refine gQ ?_;trivial
 |true=>
 refine gQ ?_;refine cQ h3 ?_;exact ⟨fun h=>⟨fun h'=>by rw [if_neg (fun x=>h' x.2)],fun h'=>by rw [if_pos ⟨h,h'⟩]⟩,fun h=>by rw [if_neg (fun x=>h x.1)]⟩
def atD(l:List Pre):Int:=match firstN l.length (is128 l) with
 |some i=>(i:Int)
 |none=> -1
theorem j3E(l:List Pre)(ho:(Ty.slice PreT).ok l):PC Tryz.prog 30 [.isl PreT l] (rI (atD l)):=by
 have hl:=ho.1;generalize hR:atD l=R;refine q0w rfl rfl ?_;refine rQ fi30 ?_;refine q0Q (fun i=>[(3,.raw (.int .i64 ((i:Nat):Int)))]) (l.length) (fun j=>(fun j=> !is128 l j) j=true) (by first|decide|simp) (fun i=>rfl) ?_ fun i hi hall=> ?_
 · (with_reducible refine sxE ?_<;>try exact True.intro)
   all_goals (try rfl)
 have hwr:=wsx i (by omega)
 refine gQ ?_;have bad:i< (l.length)→(fun j=> !is128 l j) i=false→allN (l.length) (fun j=> !is128 l j)=false:=fun hlt hv=>q0l hlt hv;have fin:¬i< (l.length)→allN (l.length) (fun j=> !is128 l j)=true:=fun h=>q0q fun j hj=>hall j (by omega)
 try dsimp only at bad fin hall
 have hall':∀j,j<i→is128 l j=false:=fun j hj=>by simpa using hall j hj
 refine ⟨fun hlt=>⟨⟨by omega,hlt⟩,fun h=> ?_,fun h=>⟨hlt,q0I hall' (by simpa [is128] using h),⟨[],rfl⟩,?_⟩⟩,fun hge=> ?_⟩
 · rw [←hR];unfold atD;rw [q1Z hlt (by simpa [is128] using h) hall']
 · with_reducible refine sx1 hwr ?_;trivial
 rw [←hR];unfold atD;rw [q2x (fun j hj=>hall' j (by omega))]
theorem z3G(l l':List Pre)(ho:(Ty.slice PreT).ok l):PC Tryz.prog 32 [.isl PreT l,.isl PreT l'] (rB (decide (l=l'))):=by
 have hlen:l.length≤1125899906842624:=ho.1;have key:=sameN l l' PreT.dflt;refine q0w rfl rfl ?_;refine rQ fi32 ?_;refine ⟨fun h=> ?_,fun h=> ?_⟩
 · rw [decide_eq_false (fun e=>h (by rw [e]))]
 have hll:l.length=l'.length:=by omega
 refine q0Q (fun i=>[(5,.raw (.int .i64 ((i:Nat):Int)))]) (l.length) (fun j=>(eqAt l l' PreT.dflt) j=true) (by first|decide|simp) (fun i=>rfl) ?_ fun i hi hall=> ?_
 · (with_reducible refine sxE ?_<;>try exact True.intro)
   all_goals (try rfl)
 have hwr:=wsx i (by omega)
 refine gQ ?_;have bad:i< (l.length)→(eqAt l l' PreT.dflt) i=false→allN (l.length) (eqAt l l' PreT.dflt)=false:=fun hlt hv=>q0l hlt hv;have fin:¬i< (l.length)→allN (l.length) (eqAt l l' PreT.dflt)=true:=fun h=>q0q fun j hj=>hall j (by omega)
 try dsimp only at bad fin hall
 have hgd:eqAt l l' PreT.dflt i=decide (l.getD i PreT.dflt=l'.getD i PreT.dflt):=rfl;have hfalse:i<l.length→l.getD i PreT.dflt≠l'.getD i PreT.dflt→decide (l=l')=false:=fun hlt hne=>decide_eq_false (fun e=>by have:=bad hlt (hgd.trans (decide_eq_false hne));rw [(key.1 e).2] at this;cases this)
 refine ⟨fun hlt=>⟨⟨by omega,hlt⟩,⟨by omega,by omega⟩,fun h1=>⟨⟨by omega,hlt⟩,⟨by omega,by omega⟩,fun h2=> ?_,fun h2=>⟨hlt,q0I hall ?_,⟨[],rfl⟩,?_⟩⟩,fun h1=> ?_⟩,fun hge=> ?_⟩
 · rw [hfalse hlt (fun e=>h2 (by rw [e]))]
 · rw [z6o] at h2;exact hgd.trans (decide_eq_true (Prod.ext h1 h2))
 · with_reducible refine sx1 hwr ?_;trivial
 · rw [hfalse hlt (fun e=>h1 (by rw [e]))]
 rw [decide_eq_true (key.2 ⟨hll,fin hge⟩)]
end Go.Proofs.YtmapiojgmbgbgaaGreatDoor
