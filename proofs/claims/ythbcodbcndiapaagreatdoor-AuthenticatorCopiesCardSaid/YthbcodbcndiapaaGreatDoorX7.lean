/- A part of the proof: a symbolic executor over abstract values, and its soundness. -/
import Derived.Test.YthbcodbcndiapaaGreatDoorX6
import Derived.Lib.Bytealg
import Derived.Lib.Strings
import Derived.Lib.IndexBytes
set_option linter.all false
set_option maxHeartbeats 4000000
namespace Go.Sx
open Go

variable {P:Program} {AQ:Ex->List SV->List SObj->Prop} {k0:Nat} {k:List It} {t:List SV} {H:List SObj}
variable {g:FG} {Ds:List Nat}

def z2e{E:EnD}{D:Nat}{C:Cx}{j:List Deferred}(h:(topG g (D :: Ds)).fin {E with base:=markD D :: E.base} C H j):(topG g Ds).fin E C H j:=by obtain ⟨Ds',e,⟨S,m⟩,b,a⟩:=h;exact ⟨Ds'++ [D],by rw [e];simp,⟨S,g.base (E:={E with base:=markD D :: E.base}) E.base m⟩,by simpa using b,by simpa using a⟩
def q9c{o p:Ghost}{E:EnD}{u:List Deferred}(n:∀ {C H ds},o.fin {E with base:=u} C H ds->p.fin E C H ds)(e:Exit)(a:Act)(w:World)(h: @conc o {E with base:=u} AQ e a w): @conc p E AQ e a w:=by
 cases e with
 |normal=>obtain ⟨C,t,H,m,j,b⟩:=h;exact ⟨C,t,H,m,j,⟨b.wd,b.ext,n b.defs,b.tmps⟩⟩
 |ret=>obtain ⟨C,t,H,m,j,b⟩:=h;exact ⟨C,t,H,m,j,⟨b.wd,b.ext,n b.defs,b.tmps⟩⟩
 |exit id=>obtain ⟨C,t,H,m,j,b⟩:=h;exact ⟨C,t,H,m,j,⟨b.wd,b.ext,n b.defs,b.tmps⟩⟩
 |panic ch=>obtain ⟨C,t,H,s,v,m,j,b,z,B,x,A,y⟩:=h;exact ⟨C,t,H,s,v,m,j,b,z,B,x,n A,y⟩
 |goto l=>exact h
 |outgrown=>exact h

def q5N{w:World}{o:Obj}{b:Nat}(h:b<w.heap.size):(w.alloc o).heap[b]?=w.heap[b]?:=by show (w.heap.push o)[b]?=_;rw [Array.getElem?_push_lt h,BH h]

def RfStop(g:FG)(P:Program)(AQ:Ex->List SV->List SObj->Prop)(k0:Nat)(k:List It)(t:List SV)(Ds:List Nat):Ex->List SObj->Prop
 |.exit id,H=>∃k',exitTo' id k=some k'/\ @Sound (topG g Ds) P AQ ⟨k0,k',t,H⟩
 |.ret,H=>AQ .ret t H
 |_,_=>False
@[reducible] def freG(g:FG)(Ds:List Nat):Ghost where
 inv0:=λE C H=>(topG g Ds).inv0 E C H/\∀b,¬OwnB E.C E.H b
 fin:=(topG g Ds).fin
 toFin0:=λht h=>(topG g Ds).toFin0 ht h.1
 next0:=λhx h=>⟨(topG g Ds).next0 hx h.1,h.2⟩
 same0:=λhw e hk hi ho hm hl h=>⟨(topG g Ds).same0 hw e hk hi ho hm hl h.1,h.2⟩
 rd:=λr=>r=none
 rd0:=rfl
variable {G0:Ghost}{inf:Prop}{gop:Operand}{ps:Array Tmp}{f:FuncId}{N:Nat}{vw:Nat->Nat->List SV->List SObj->Prop}
theorem z9I{p body:Code}{fi ca aC:List SV}{ob H1:List SObj}{Hs:Nat->List SObj->Prop}{X:Nat->Ex->List SObj->Prop}
 (hG:∀ {E C},G0.inv0 E C H->(topG g Ds).inv0 E C H/\(ob= []\/∀b,¬OwnB E.C E.H b))(hF:∀ {E C H ds},(topG g Ds).fin E C H ds->G0.fin E C H ds)(aW:∀r,G0.rd r->r=none)
 (aG:evT t gop= .fn f fi ca)(aY:SV.cleanL fi=true)(aJ:Hand 1 H H1 ca aC ob)(ax:∀n,H[0]?=some (.mark n)->H1[0]?=some (.mark n))(av:IterO inf P f fi aC ob N vw)(aA:inf->∀Hn,¬Hs N Hn)(hr:RfOk P g ps p body t N vw Hs X)(h0:Hs 0 H1)(aE:noStop k=true)
 (ai:∀D Hn,Hs N Hn-> @Sound (topG g (D :: Ds)) P AQ ⟨k0,k,t,Hn⟩)(ao:∀D i ex Hn,i<N->X i ex Hn->RfStop g P AQ k0 k t (D :: Ds) ex Hn):
 @Sound G0 P AQ ⟨k0,.code (.rangeFunc gop ps p body) :: k,t,H⟩:=by
 intro E r n C a aB A;obtain ⟨ay,aR⟩:E.C.n<=k0/\G0.rd r:=aB;obtain rfl:=aW r aR;simp only [wpT];obtain ⟨aN,Y,aL⟩:=A.defs;obtain ⟨⟨⟨S0,aa⟩,bb,ag⟩,aw⟩:=hG aL;have af:=q2f A.tmps gop;rw [aG,SV.den] at af;obtain ⟨v1,v2,af,d1,d2⟩:=af;refine wpIn_rangeFunc λfn _=> ?_;have ap:∀b,¬OwnB ⟨λ_=>none,1,C.I,C.w⟩ [.mark 0] b:=λb ⟨x,o,_,_,u⟩=>by cases u
 have aV:Wd ⟨λ_=>none,1,C.I,C.w⟩ [.mark 0]:=by
  refine ⟨rfl,λx o W=> ?_,λb u=>absurd u (ap b),λx x' o o' b _ _ _ _ h=>(by cases h),A.wd.imm⟩;cases x with
  |zero=>simp at W;subst W;trivial
  |succ x=>simp at W
 obtain ⟨L,V,O,a2,a3,a4,a5,b1,b2,b3,b4,b5,b6⟩:=aJ C _ [.mark 0] v2 A.wd d2 aV rfl rfl (λ_=>Iff.rfl) λb _ h=>ap b h;have h6:∀b,OwnB V (.mark 0 :: ob) b->OwnB C H b/\¬OwnB L H1 b:=λb u=>(b6 b u).elim (λh=>absurd h (ap b)) id;have aO:Wd L H1/\Ext E.toEn L H1/\g.core E L H1 S0/\SV.denL L t a.tmps.toList/\(∀D∈Ds,MarkOk E.toEn L H1 D)/\TabT L H1:=by
  refine ⟨a3,⟨A.ext.evo.trans a4,by rw [O];exact A.ext.size,by rw [O];exact A.ext.os,by rw [O];exact A.ext.tape,by rw [O];exact A.ext.output,λb h1 h2=>by rw [O];exact A.ext.frame b h1 h2,λb u=> ?_,λb u=>A.ext.ownNew b (a5 b u),λm h0 hm=>ax m (A.ext.keep0 m h0 hm)⟩,?_,q0f a4 A.tmps,λD Z=>(ag D Z).same O (λb u=>.inl (by rw [a2] at u;exact u)) a5,Y.tab.sub O (λb u=>by rw [a2];exact u) a5⟩
  . rw [a2] at u;rw [O];exact A.ext.immNew b u
  exact g.own A.wd O (λb h=>by rw [a2];exact h) (λb h=>by rw [a2] at h;exact .inl h) (λb u=>.inl (a5 b u)) (λm _ hm=>ax m hm) (Ao A.ext.evo.n a4.n) aa
 obtain ⟨aj,az,ad,aX,ar,al⟩:=aO;obtain ⟨y,Q⟩:∃y,y=(C.w.alloc (.deferred (some []))).alloc (.loop (rfRec fn a.tmps ps p body C.w.heap.size .ready none)):=⟨_,rfl⟩;have hsz:y.heap.size=C.w.heap.size+2:=by rw [Q];simp
 have K:∀b,b<C.w.heap.size->y.heap[b]?=C.w.heap[b]?:=λb u=>by rw [Q,q5N (by simp;omega),q5N u]
 have aS:y.heap[C.w.heap.size]?=some (.deferred (some [])):=by rw [Q,q5N (by simp),World.alloc_heap_new]
 have aH:y.heap[C.w.heap.size+1]?=some (.loop (rfRec fn a.tmps ps p body C.w.heap.size .ready none)):=by rw [Q];have:=World.alloc_heap_new (C.w.alloc (.deferred (some []))) (.loop (rfRec fn a.tmps ps p body C.w.heap.size .ready none));rwa [World.size_alloc] at this
 have ae:(Instr.enterLoop fn a.tmps ps p body (Fw none).round).run P C.w= .ok (C.w.heap.size+1,[markD C.w.heap.size]) y:=by rw [Q];exact run_enterLoop_outer _ _ _ _ _
 have U:World.os y=C.w.os/\y.tape=C.w.tape/\y.output=C.w.output:=by rw [Q];exact ⟨rfl,rfl,rfl⟩
 clear Q;obtain ⟨g1,g2⟩:=z2J (w':=y) aj (by rw [O];omega) (by rw [O];exact K) (by rw [O];exact U.1) (by rw [O];exact U.2.1) (by rw [O];exact U.2.2);obtain ⟨w9,x9⟩:=z2J (w':=y) b3 (by rw [b1];show C.w.heap.size<=_;omega) (by rw [b1];exact K) (by rw [b1];exact U.1) (by rw [b1];exact U.2.1) (by rw [b1];exact U.2.2);have ab:∀D∈Ds,D<C.w.heap.size:=λD Z=>(Ax.1 (ag D Z).at_).1;have R:∀b,C.w.heap.size<=b->¬L.I b/\¬OwnB L H1 b:=λb u=>⟨λh=>absurd (aj.imm b h) (by rw [O];omega),λh=>absurd (aj.own b h).2 (by rw [O];omega)⟩
 have aZ:E.C.w.heap.size<=C.w.heap.size:=A.ext.size;have aD:Cal g E (C.w.heap.size :: Ds) t a.tmps.toList (C.w.heap.size+1) (.loop (rfRec fn a.tmps ps p body C.w.heap.size .ready none)) {L with w:=y} H1 S0:=by
  refine ⟨g1,az.trans g2,g.next g2 ad,q0f g2.evo aX,λD Z=> ?_,λhm=> ?_,by omega,(R _ (by omega)).1,(R _ (by omega)).2,aH,trivial,⟨al.next g2,Y.old⟩⟩
  . rcases Ba.1 Z with rfl|Z
    . exact ⟨aZ,(R _ (Ac _)).1,(R _ (Ac _)).2,aS⟩
    exact (ar D Z).next g2
  rcases Ba.1 hm with h|h
  . omega
  have:=ab _ h;omega
 have hJ:=j7g (g:=g) (E:=E) (Ds:=C.w.heap.size :: Ds) (t:=t) (tms:=a.tmps.toList) (l:=C.w.heap.size+1) (N:=N) (Hs:=Hs) (X:=X) (rec:=rfRec fn a.tmps ps p body C.w.heap.size) (Ac _);have yg:=z6f (E:=E) (Ds:=C.w.heap.size :: Ds) (l:=C.w.heap.size+1) (fn:=fn) (us:=a.tmps) (D:=C.w.heap.size) hr (Ac _);have aq:rfJ g E (C.w.heap.size :: Ds) t a.tmps.toList (C.w.heap.size+1) N Hs X (rfRec fn a.tmps ps p body C.w.heap.size) 0 (calS (C.w.heap.size :: Ds) (C.w.heap.size+1) {L with w:=y} H1 S0) y V.I:=
  ⟨{L with w:=y},S0,H1,_,rfl,λb=>by rw [b2,show ({L with w:=y}:Cx).I=C.I from a2];exact ⟨λh=>⟨h,by have:=A.wd.imm b h;omega⟩,And.left⟩,aD,λ_=>Iff.rfl,.inl ⟨Ai _,h0,rfl⟩⟩
 have aM:∀b,OwnB V (.mark 0 :: ob) b->b<C.w.heap.size:=λb u=>(A.wd.own b (h6 b u).1).2;have hy:=YCore.mk (B:=E.C.w.heap.size) (E:=startE true (calS (C.w.heap.size :: Ds) (C.w.heap.size+1) {L with w:=y} H1 S0) {V with w:=y} (.mark 0 :: ob)) (C:={V with w:=y}) (H:=.mark 0 :: ob) (S:=calS (C.w.heap.size :: Ds) (C.w.heap.size+1) {L with w:=y} H1 S0)
  (by show 0<V.n;rw [b3.n];simp) (Ac _) (λn hn=>by cases (q4y (by simp) hn).1) (by show _<=y.heap.size;omega) (Ac _) (λb u=>⟨.inr ((q0K w9.n).2 (.inl u)),by
   rcases aw with h|h
   . subst h;obtain ⟨x,o,W,hl,_⟩:=u;cases x with
     |zero=>simp at W;subst W;simp [SObj.live] at hl
     |succ x=>simp at W
   . exact (A.ext.ownNew b (h6 b u).1).elim id λx=>absurd x (h b)⟩) ⟨0,rfl,aq⟩ (λb u=>⟨.inr ((q0K w9.n).2 (.inr ⟨u,(hJ.fp aq u).2⟩)),λW=>by
   have q:=h6 b W;have q2:=aM b W;rcases u with x|x|x|x
   . exact q.2 x
   . exact (g.perm aa x).2.2.1 q.1
   . omega
   . rcases Ba.1 x with rfl|x
     . omega
     exact (ag b x).own q.1⟩) (λj s f=>j3K (B:=C.w.heap.size+2) (by omega) (by omega) (λD Z=>by
   rcases Ba.1 Z with rfl|Z
   . omega
   have:=ab _ Z;omega) j s f|>λh=>by show _<y.heap.size;omega)
 have F:TabT {V with w:=y} (.mark 0 :: ob):=Y.tab.keep (C':={V with w:=y}) (λb u=>⟨by show V.I b;rw [b2];exact u,K b (A.wd.imm b u)⟩) λb _ u W=>⟨by show b<y.heap.size;omega,λx=>W (h6 b x).1,K b u⟩
 have ah:=av.2 (C.w.heap.size+1) E.C.w.heap.size _ hJ yg (λhi S w I ⟨_,_,Hn,_,_,_,_,_,am⟩=>by
  rcases am with ⟨_,h1,_⟩ | ⟨i,_,_,h1,h2,_⟩
  . exact aA hi Hn h1
  . omega) (startE true (calS (C.w.heap.size :: Ds) (C.w.heap.size+1) {L with w:=y} H1 S0) {V with w:=y} (.mark 0 :: ob)) {V with w:=y} (v1++ [Value.func (.yield (C.w.heap.size+1)) #[] #[]]++v2) w9 ⟨⟨F,F.lt⟩,_,hy⟩
  (q0w.2 ⟨_,_,rfl,q0w.2 ⟨_,_,rfl,q1i (C:=C) (C':={V with w:=y}) (λb u=>⟨by show V.I b;rw [b2];exact u,K b (A.wd.imm b u)⟩) aY d1,q0c.2 ⟨_,[],rfl,by rw [SV.den],q0y.2 rfl⟩⟩,q0f x9.evo b5⟩)
 refine ⟨C.w.heap.size+1,[markD C.w.heap.size],y,{target:=.fn (.func f) v2.toArray,args:=v1.toArray++ #[.func (.yield (C.w.heap.size+1)) #[] #[]]},y,f,(v1++ [Value.func (.yield (C.w.heap.size+1)) #[] #[]]++v2).toArray,y,ae,?_,λf' _=>q4g none f',?_,λh=>(by cases h),q2S (ah.mono ?_)⟩
 . simp [resolve,af,Deferred.ofValue];rfl
 . simp [invoke,q2n av.1]
 rintro e w' ⟨o,H',C',⟨s,m,rfl,hm,hN⟩,rfl,hw',aP,v,rfl,hv⟩;obtain ⟨_,S',bc⟩:= @Stp.inv (fgG (yFG hJ)) _ _ _ _ _ aP ⟨⟨F,F.lt⟩,_,hy⟩;obtain ⟨m',au,C3,S3,H3,o3,e3,hI3,ak,hS3,am⟩:=bc.st;have ba:m'=m:=by rw [hm] at au;simpa using au.symm
 subst ba;have ac:∀ (pe:Option Code), @Den (topG g (C.w.heap.size :: Ds)) {E with base:=markD C.w.heap.size :: E.base} (chgC C3 (C.w.heap.size+1) (.loop (rfRec fn a.tmps ps p body C.w.heap.size .exhausted pe))) t H3 {a with defers:=[markD C.w.heap.size]++a.defers}:=λpe=>by have z:=ak.chg (o':=.loop (rfRec fn a.tmps ps p body C.w.heap.size .exhausted pe)) trivial;exact ⟨z.wd,z.ext,⟨by rw [aN];rfl,z.tab,⟨S3,g.base _ z.core⟩,BA.2 ⟨λh=>absurd (ab _ h) (BF _),bb⟩,z.marks⟩,z.tmps⟩
 rcases am with ⟨an,aT,rfl⟩ | ⟨i,ex,c,rfl,hi,hX,aF,rfl⟩
 . have an:m'=N:=Nat.le_antisymm an hN;subst an;refine ⟨none,_,by rw [<-e3];exact run_endLoop ak.lat (by simp),?_⟩;exact (q2a (G:=G0) (λe a w hh=>q9c (λh=>hF (z2e h)) e a w hh) k aE).1 _ _ (ai C.w.heap.size H3 aT {E with base:=markD C.w.heap.size :: E.base} none n _ _ ⟨ay,rfl⟩ (ac none))
 have hs:=ao C.w.heap.size i ex H3 hi hX;refine ⟨some c,_,by rw [<-e3];exact run_endLoop ak.lat (by simp),?_⟩;cases ex with
 |normal=>exact hs.elim
 |pan s=>exact hs.elim
 |ret=>cases aF;exact wpIn_ret (q9c (λh=>hF (z2e h)) .ret _ _ ⟨_,t,H3,hs,rfl, @Den.fin (topG g (C.w.heap.size :: Ds)) _ _ _ _ _ (ac (some .ret))⟩)
 |exit id=>cases aF;obtain ⟨k',aK,hs⟩:=hs;have h9:=hs {E with base:=markD C.w.heap.size :: E.base} none n _ _ ⟨ay,rfl⟩ (ac (some (.exit id)));have h8:= @q3p (topG g (C.w.heap.size :: Ds)) P (Fw none) n _ _ id _ _ k' k aK h9;exact wpIn_exit ((q2a (G:=G0) (λe a w hh=>q9c (λh=>hF (z2e h)) e a w hh) k aE).2 id _ _ h8)
variable {P:Program} {AQ:Ex->List SV->List SObj->Prop} {k0:Nat} {k:List IT} {t:List SV} {H:List SObj}

variable {args:List SV}{ty:Ty}{xs:List ty.den}{d:Option Tmp}{td:List IT}
def q8X[Ghost](b:VC P f args [] (RowK ty xs))(m:SV.belL 0 args=true)(a:args=SV.renL (sig [] H.length) args)
 (j:xs= []->SoundI P AQ ⟨k0,td,putT t d (.raw (.slice none 0 0)),H⟩)(h:SoundI P AQ ⟨k0,td,putT t d (.bld H.length ty xs.length),H++ [.row ty xs]⟩):CallI P AQ f args d ⟨k0,td,t,H⟩:=by
 refine ⟨b.1,VCall.g ?_⟩;rw [a];refine VCall.fr (H0:=[]) [] (by simp) trivial m rfl b.2 ?_;rintro o H' _ (⟨e,rfl,rfl⟩ | ⟨rfl,rfl⟩)
 . simp only [mgA,BS,Ad];exact j e
 exact h
theorem q1N[Ghost](d h:Nat){T:TypeId}{x:ty.den}(hp:plainT td=true)(U:ty.ok x)(D:H[h]?=some (.cells T (ty.cells x)))(hd:t[d]?=some (.ptr h 0))(hs:SoundI P AQ ⟨k0,td,t.set d (.iptr ty x 0),H.set h .dead⟩)(L:ty.known=true:=by rfl):
 SoundI P AQ ⟨k0,td,t,H⟩:=q0d (λtd' hr E r n C a Q m=>by
 have R:=q0e hs hr;obtain ⟨b,vs,X,hcell,V⟩:=m.wd.obj h _ D;have y:OwnB C H b:=⟨h,_,D,rfl,X⟩;obtain ⟨hnI,O⟩:=m.wd.own b y;have z:∀s,OwnB C (H.set h .dead) s->OwnB C H s/\s≠b:=by
  rintro s ⟨i,o,A,S,p⟩;by_cases e:h=i
  . grind [SObj.live]
  rw [AJ e] at A;refine ⟨⟨i,o,A,S,p⟩,λe'=> ?_⟩;subst e';exact e (m.wd.inj h i _ o s D A rfl S X p)
 let C':Cx:={C with I:=λs=>C.I s\/s=b}
 have K:Evo C C':=⟨Ac _,λ_ _=>rfl,λs p=>⟨.inl p,rfl⟩,λ_ _ hm=>hm⟩;have hw:Wd C' (H.set h .dead):=by
  refine ⟨by simp [C',m.wd.n],λi o A=> ?_,λs p=> ?_,λi i' o o' s R h2 Z Y h5 h6=> ?_,λs p=> ?_⟩
  . by_cases e:h=i
    . subst e;rw [Bd (Am.1 D).1] at A;cases A;trivial
    rw [AJ e] at A;exact q0z K.I i rfl (λ_ _=>rfl) (q0f K) (m.wd.obj i o A)
  . obtain ⟨g1,g2⟩:=z s p;have:=m.wd.own s g1;grind
  . have key:∀ {i:Nat} {o:SObj},(H.set h .dead)[i]?=some o->o.live=true->H[i]?=some o:=λ{i o} A S=>by grind [SObj.live]
    exact m.wd.inj i i' o o' s (key R Z) (key h2 Y) Z Y h5 h6
  exact p.elim (m.wd.imm s) λe=>e▸O
 have F:∀n,H[0]?=some (.mark n)->(H.set h .dead)[0]?=some (.mark n):=λn G=>q3M D rfl G;have hx:Ext E.toEn C' (H.set h .dead):=by
  refine ⟨m.ext.evo.trans K,m.ext.size,m.ext.os,m.ext.tape,m.ext.output,m.ext.frame,λs p=> ?_,λs p=>m.ext.ownNew s (z s p).1,λn Q G=>F n (m.ext.keep0 n Q G)⟩;rcases p with p|rfl
  . exact m.ext.immNew s p
  exact .inr ⟨m.ext.ownNew s y,q4v (C:=C) m.wd y⟩
 have hg:Ghost.inv E C' (H.set h .dead):=Ghost.same (C:=C) (C':=C') m.wd rfl (λs p=>.inl p) (λs (p:C.I s\/s=b)=>p.elim .inl λe=>.inr (by simp_all)) (λs p=>(z s p).1) (λn _ G=>F n G) m.ext.evo.n m.defs.2;refine R E r n C' a Q ⟨hw,hx,⟨m.defs.1,hg⟩,?_⟩;have W:=q0f K m.tmps;obtain ⟨v,hv,B⟩:=q1v W hd;rw [SV.den] at B;obtain ⟨_,s,p,rfl⟩:=B;have e:s=b:=by grind
 subst e;have hi:(SV.iptr ty x 0).den C' (.pointer (some ⟨s,0,none⟩)):=by rw [SV.den];exact ⟨s,0,vs,rfl,.inr rfl,ty.cells_rel _ _ L U (q0f K V),λj u hj=>by rw [Ag];grind [q0h]⟩
 have h9:=q1u (i:=d) W hi;have e9:a.tmps.toList.set d (.pointer (some ⟨s,0,none⟩))=a.tmps.toList:=by apply AE;grind
 grind) hp
theorem z2S[Ghost](d h i k:Nat)(L:plainT td=true)(p:H[h]?=some (.row ty xs))(B:t[d]?=some (.rptr h ty i k))(hi:i<xs.length)(o:xs.length<=1125899906842624)(O:frzObH h ty xs H)(A:SV.frzObL h ty xs t)
 (S:SoundI P AQ ⟨k0,td,(SV.frzL h ty xs t).set d (.iptr ty (xs.getD i ty.dflt) k),frzH h ty xs H⟩):SoundI P AQ ⟨k0,td,t,H⟩:=q0d (λtd' R E r n C a F e=>by
 obtain ⟨Q,G⟩:=z8U e.wd e.ext p o O;have x:DefOk E (C.frz h) (frzH h ty xs H) a.defers:=⟨e.defs.1,Ghost.same e.wd rfl (λ_ h=>.inl h) (λb m=>orMap m id λm=>⟨h,_,p,rfl,m⟩) (λb m=>(z7q e.wd p m).1) (λ_ _ V=>z0g p V) e.ext.evo.n e.defs.2⟩;have D:=q2j e.wd p o A e.tmps;refine q0e S R E r n (C.frz h) a F ⟨Q,G,x,?_⟩;obtain ⟨v,hv,s⟩:=q1v e.tmps B;rw [SV.den] at s;obtain ⟨_,b,m,rfl⟩:=s;rcases e.wd.obj h _ p with ⟨_,h2⟩ | ⟨b',arr,T,fz,y,hcell,hfz,hsz,z⟩
 . simp_all
 rw [m] at y;cases y;obtain ⟨us,K,X⟩:=z i (xs.getD i ty.dflt) (by simp_all);have U:(SV.iptr ty (xs.getD i ty.dflt) k).den (C.frz h) (.pointer (some ⟨b,i*ty.size+k,none⟩)):=by rw [SV.den];refine ⟨b,i*ty.size,us,rfl,.inr m,Ty.rel_keep (q0P C h).I _ _ _ K,λj u W=> ?_⟩;have:=X j u W;rw [Ag] at this;exact this
 have h9:=q1u (i:=d) D U;have e9:a.tmps.toList.set d (.pointer (some ⟨b,i*ty.size+k,none⟩))=a.tmps.toList:=by apply AE;grind
 grind) L

variable {P:Program} {AQ:Ex->List SV->List SObj->Prop} {k0:Nat} {k:List IT} {t:List SV} {H:List SObj}
variable {g:FG} {Ds:List Nat}

theorem z6Y:(#[]:Array Value).size=0:=rfl
attribute [go_sem] z6Y
def RfStopI(g:FG)(P:Program)(AQ:Ex->List SV->List SObj->Prop)(k0:Nat)(k:List IT)(t:List SV)(Ds:List Nat):Ex->List SObj->Prop
 |.exit id,H=>∃k',exitI id k=some k'/\ @SoundI (topG g Ds) P AQ ⟨k0,k',t,H⟩
 |.ret,H=>AQ .ret t H
 |_,_=>False
variable {body:IC}
theorem j3f{v:IC}{Y Z x:List SV}{Q H1:List SObj}(Hs:Nat->List SObj->Prop)(X:Nat->Ex->List SObj->Prop)
 (hG:∀ {E C},G0.inv0 E C H->(topG g Ds).inv0 E C H/\(Q= []\/∀b,¬OwnB E.C E.H b))(hF:∀ {E C H ds},(topG g Ds).fin E C H ds->G0.fin E C H ds)(V:∀r,G0.rd r->r=none)
 (B:evT t gop= .fn f Y Z)(W:SV.cleanL Y=true)(K:Hand 1 H H1 Z x Q)(S:∀n,H[0]?=some (.mark n)->H1[0]?=some (.mark n))(O:IterO inf P f Y x Q N vw)(u:inf->∀Hn,¬Hs N Hn)(y:∀i n e j,vw i n e j->e.length=ps.size)(h0:Hs 0 H1)(R:noStopI k=true)
 (m:∀i Hi e j,i<N->Hs i Hi->vw i Hi.length e j->∀G F, @SoundI (pinG g G) P (λ_ _ _=>False)
  ⟨(Hi++j).length,[.ic v,.stop λt' H'=> @SoundI (pinG g F) P (RQ Hs X i) ⟨H'.length,[.ic body],t',H'⟩],putL ps.toList e t,Hi++j⟩)
 (o:∀D Hn,Hs N Hn-> @SoundI (topG g (D :: Ds)) P AQ ⟨k0,k,t,Hn⟩)(p:∀D i ex Hn,i<N->X i ex Hn->RfStopI g P AQ k0 k t (D :: Ds) ex Hn):
 @SoundI G0 P AQ ⟨k0,.ic (.rf gop ps v body) :: k,t,H⟩:= @q0d G0 P AQ k0 t H _ (λtd' A=>by
 obtain ⟨c',r,rfl,hc,A⟩:=A;obtain ⟨a,b,rfl,ha,hb⟩:=q0G hc;refine z9I (Hs:=Hs) (X:=X) hG hF V B W K S O u ⟨y,λi Hi e j U hH hv G F=>⟨_,λt' H' hΦ=> ?_, @q0e (pinG g G) _ _ _ _ _ _ _ (m i Hi e j U hH hv G F) ⟨a,_,rfl,ha,[],rfl,rfl⟩⟩⟩ h0 (q2v A R) (λD Hn h=> @q0e (topG g (D :: Ds)) _ _ _ _ _ _ _ (o D Hn h) A) λD i ex Hn U hX=> ?_
 . exact @q0e (pinG g F) _ _ _ _ _ _ _ hΦ ⟨b,[],rfl,hb,rfl⟩
 have h:=p D i ex Hn U hX;cases ex with
 |normal=>exact h.elim
 |pan s=>exact h.elim
 |ret=>exact h
 |exit id=>
  obtain ⟨k',L,hs⟩:=h;obtain ⟨r',I,z⟩:=q2Q A L
  exact ⟨r',I, @q0e (topG g (D :: Ds)) _ _ _ _ _ _ _ hs z⟩) rfl
def j2x{asg:IC}{fi ca:List SV}(Hs:Nat->List SObj->Prop)(X:Nat->Ex->List SObj->Prop)
 (hgop:evT t gop= .fn f fi ca)(hfi:SV.cleanL fi=true)(hca:SV.cleanL ca=true)(hit:IterI inf P f fi ca N vw)(hinf:inf->∀Hn,¬Hs N Hn)(hlen:∀i n args' new,vw i n args' new->args'.length=ps.size)(h0:Hs 0 H)(hns:noStopI k=true)
 (hround:∀i Hi args' new,i<N->Hs i Hi->vw i Hi.length args' new->∀L1 L2, @SoundI (pinG g L1) P (λ_ _ _=>False)
  ⟨(Hi++new).length,[.ic asg,.stop λt' H'=> @SoundI (pinG g L2) P (RQ Hs X i) ⟨H'.length,[.ic body],t',H'⟩],putL ps.toList args' t,Hi++new⟩)
 (hdone:∀D Hn,Hs N Hn-> @SoundI (topG g (D :: Ds)) P AQ ⟨k0,k,t,Hn⟩)(hstop:∀D i ex Hn,i<N->X i ex Hn->RfStopI g P AQ k0 k t (D :: Ds) ex Hn):
 @SoundI (topG g Ds) P AQ ⟨k0,.ic (.rf gop ps asg body) :: k,t,H⟩:=
 j3f (G0:=topG g Ds) Hs X (λh=>⟨h,.inl rfl⟩) (λh=>h) (λ_ h=>h) hgop hfi (q0M hca) (λ_ h=>h) hit hinf hlen h0 hns hround hdone hstop
def z5X{asg:IC}{fi ca:List SV}(Hs:Nat->List SObj->Prop)(X:Nat->Ex->List SObj->Prop)
 (hgop:evT t gop= .fn f fi ca)(hfi:SV.cleanL fi=true)(hca:SV.cleanL ca=true)(hit:Iter P f fi ca N vw)(hlen:∀i n args' new,vw i n args' new->args'.length=ps.size)(h0:Hs 0 H)(hns:noStopI k=true)
 (hround:∀i Hi args' new,i<N->Hs i Hi->vw i Hi.length args' new->∀L1 L2, @SoundI (pinG g L1) P (λ_ _ _=>False)
  ⟨(Hi++new).length,[.ic asg,.stop λt' H'=> @SoundI (pinG g L2) P (RQ Hs X i) ⟨H'.length,[.ic body],t',H'⟩],putL ps.toList args' t,Hi++new⟩)
 (hdone:∀D Hn,Hs N Hn-> @SoundI (topG g (D :: Ds)) P AQ ⟨k0,k,t,Hn⟩)(hstop:∀D i ex Hn,i<N->X i ex Hn->RfStopI g P AQ k0 k t (D :: Ds) ex Hn):
 @SoundI (topG g Ds) P AQ ⟨k0,.ic (.rf gop ps asg body) :: k,t,H⟩:=
 j2x (inf:=False) Hs X hgop hfi hca hit.toI (λh=>h.elim) hlen h0 hns hround hdone hstop
variable {J:Nat->(Nat->Prop)->World->(Nat->Prop)->Prop}
theorem j1X{B:Nat}{T:List SObj}{c:IC}(b:FJ B J)(hno:∀S w I,¬J N S w I): @SoundI (topG (yFG b) Ds) P AQ ⟨k0,.ic c :: k,t,.mark N :: T⟩:= @q0d (topG (yFG b) Ds) P AQ k0 t _ _ (λtd' _ E r n C a h0 e=>by
 obtain ⟨_,_,⟨S0,h⟩,_⟩:=e.defs;obtain ⟨m,h1,h2⟩:=h.st
 simp_all) rfl

def q1K{l B:Nat}{i:Nat}{T:List SObj}(T':List SObj)
 (hJ:FJ B J)(yg:YG P l B N J vw)(hi:i<N)(hh:∀n,∃args' new,vw i n args' new/\Hand n (.mark i :: T) (.mark i :: T') args args' new)
 (hk:∀b:Bool, @SoundI (topG (yFG hJ) Ds) P AQ ⟨k0,k,putT t d (.raw (.bool b)),.mark (if b then i+1 else N+1+i) :: T'⟩): @YldI (topG (yFG hJ) Ds) P AQ l args d ⟨k0,k,t,.mark i :: T⟩:=z4b hJ yg hi hh hk
def RoundM(T:List SObj)(f:Nat->Nat)(S:Nat->List SV)(n:Nat)(p:Nat->Prop)(i:Nat):List SV->List SObj->Prop:=
 λt' H'=>i<n/\p (i+1)/\(∃G,H'= .mark (f (i+1)) :: T++G)/\leM t' (S (i+1))
theorem z2T[Ghost]{k:List It}(c:Code)(T:List SObj)(f:Nat->Nat)(S:Nat->List SV)(n:Nat)(p:Nat->Prop)(O:p 0)(K:leM t (S 0))(F:k0<=T.length+1)(D:SV.belL (T.length+1) t=true->∀i,SV.belL (T.length+1) (S i)=true)
 (round:∀i,i<=n->p i->Sound P AQ ⟨k0,.code c :: .stop (RoundM T f S n p i) :: k,S i,.mark (f i) :: T⟩):Sound P AQ ⟨k0,.code (.loop c) :: k,t,.mark (f 0) :: T⟩:=λE r m C a y b=>by
 have v:∀i,SV.belL (T.length+1) (S i)=true:=D (by have:=q1B b.tmps;rwa [b.wd.n] at this);have u:belH (T.length+1) T=true:=q4A λh o I=>by have:=q5x (b.wd.obj (h+1) o (by grind));rwa [b.wd.n] at this
 simp only [wpT];refine q0O (λm a w=>∃i,i<=n/\p i/\n-i=m/\∃C,C.w=w/\Den E C (S i) (.mark (f i) :: T) a) n ⟨0,Ai _,O,rfl,C,rfl,b.wd,b.ext,b.defs,q2p (q3e K) b.tmps⟩ ?_;rintro m' a w ⟨i,L,B,rfl,C,rfl,b⟩;have A:=round i L B E r m C a y b;simp only [wpT] at A;refine wpIn_mono A λe a w z=> ?_;cases e with
 |normal=>obtain ⟨C',t',H',⟨j,s,⟨G,rfl⟩,Q⟩,rfl,x⟩:=z;refine ⟨n- (i+1),by omega,i+1,j,s,rfl,C'.ren (λh=>h) (T.length+1),rfl,?_⟩;exact q7y (H':=.mark (f (i+1)) :: T) y.1 x (q7b Q) (v _) (λh o I _=>by grind [q1J]) (by simp only [belH,Ak];exact ⟨rfl,u⟩) (λ_ _ _ _ _ _ _ _ e=>e) (λ_ _=>rfl) F (λ_ B hn=>by simp_all)
 |exit id=>grind [Exit.then,exitT]
 |_=>exact z
theorem q9O[Ghost]{c:IC}(T:List SObj)(f:Nat->Nat)(upd:Nat->List (Nat×SV))(n:Nat)(p:Nat->Prop)(h:p 0)(j:H= .mark (f 0) :: T)(e:k0<=T.length+1)(m:∀i,((upd i).all λx=>x.2.bel (T.length+1))=true)(s:leM t (setMany (maskT c.wr t) (upd 0)))
 (round:∀i,i<=n->p i->SoundI P AQ ⟨k0,.ic c :: .stop (RoundM T f (λi=>setMany (maskT c.wr t) (upd i)) n p i) :: k,setMany (maskT c.wr t) (upd i),.mark (f i) :: T⟩):
 SoundI P AQ ⟨k0,.ic (.loop c) :: k,t,H⟩:=q0d (λtd' a=>by
 subst j;obtain ⟨c',r,rfl,u,a⟩:=a;obtain ⟨x,rfl,y⟩:=q0G u
 exact z2T x T f _ n _ h s e (λo i=>q2R _ (m i) (q2T _ o)) (λi v b=>q0e (round i v b) ⟨x,_,rfl,y,r,rfl,a⟩)) rfl


variable {P:Program} {AQ:Ex->List SV->List SObj->Prop} {k0:Nat} {k:List IT} {t:List SV} {H:List SObj}
variable {g:FG} {Ds:List Nat}

def mvL(h:Nat):List SV->List SV
 | []=>[]
 |.ptr x o :: l=>(if x=h then .ptr 1 o else .any) :: mvL h l
 |s :: l=>(if s.clean then s else .any) :: mvL h l
theorem z9A{C C':Cx}{h b:Nat}(e:Keeps C.I C'.I C.w C'.w)(p:1<C'.n)(j:C.ρ h=some b)(a:C'.ρ 1=some b):∀ {l:List SV} {vs:List Value},SV.denL C l vs->SV.denL C' (mvL h l) vs
 | [],_,d=>d
 |s :: l,vs,d=>by
  obtain ⟨v,us,rfl,d1,d2⟩:=q0c.1 d;have d2':=z9A e p j a d2;have m:SV.den C' (if s.clean then s else .any) v:=by grind [q0B,SV.den]
  cases s with
  |ptr x o=>refine q0c.2 ⟨v,us,rfl,?_,d2'⟩;grind [SV.den]
  |_=>exact q0c.2 ⟨v,us,rfl,m,d2'⟩
theorem z7i{h:Nat}{T:TypeId}{cs L:List SV}(a:H[h]?=some (.cells T cs))(Y:SV.cleanL cs=true):Hand 1 H (H.set h .dead) L (mvL h L) [.cells T cs]:=by
 intro C Cc Hc vs A X y V s O v;obtain ⟨U,g2⟩:=z2p A h a rfl;obtain ⟨b,us,u,hcl,Q⟩:=A.obj _ _ a;have D:Keeps C.I Cc.I C.w Cc.w:=λb u=>⟨(O b).2 u,by rw [s]⟩
 have j:OwnB C H b:=⟨h,_,a,rfl,u⟩;have p:∀b,OwnB C (H.set h .dead) b->OwnB C H b:=λB ⟨x,o,E,F,G⟩=>by
  by_cases e:h=x
  . simp_all
  exact ⟨x,o,by simp_all,F,G⟩
 have hnot:¬OwnB C (H.set h .dead) b:=by
  rintro ⟨x,o,E,F,G⟩;by_cases e:h=x
  . grind [SObj.live]
  rw [AJ e] at E;exact e (A.inj _ _ _ o b a E rfl F u G)
 have hn1:Cc.n=1:=by rw [y.n,V]
 let z:Cx:={Cc with ρ:=(λh=>if h=Cc.n then some b else Cc.ρ h),n:=Cc.n+1}
 have m:Keeps C.I z.I C.w z.w:=D
 obtain ⟨R,W,S⟩:=q8e y (some b) (.cells T cs) (λB e=>by
  cases e
  exact ⟨λx=>(A.own b j).1 ((O b).1 x),by grind,v b j⟩) z rfl ⟨b,us,if_pos rfl,by grind,q1i (C:=C) m Y Q⟩
 exact ⟨C,z,rfl,rfl,U,Evo.refl _,p,s,rfl,R,W,z9A (C:=C) m (by grind) u (by grind) X,λB K=>orMap (S B K) id λe=>by simp_all⟩
theorem j7K{s:FI}{K:Out->List SObj->Prop}(h:finfo P f=some s)
 (U: @SoundI (freG noFG []) P (retF P s.results K) ⟨0,[.ic s.code],args++List.replicate (s.ntmps-args.length) .any,[]⟩):VC P f args [] K:=by
 obtain ⟨fn,c,O,j,X,L,F,z⟩:=z4o h;have G:retQ P fn K=retF P s.results K:=by rw [<-F];funext e t H;rfl
 refine q3K ⟨z,?_⟩;rintro E C vs p ⟨B,S,m⟩ W;have a:∀b,¬S b:=m
 refine (@q3o (freG noFG []) P [] f fn c args K (startE false S C []) C vs O j rfl (by show C.n<=_;rw [p.n];omega) p (q3Q p.n) ⟨⟨B.tab,B.tab.lt⟩,⟨⟨S,a⟩,Cy,λ_ h=>by simp at h⟩,λb j=>((q0K p.n).1 j).elim q6r λx=>a b x.1⟩
  (λ_ _=>True) ?_ W ?_).mono ?_
 . rintro C' H' ds hw' hx' ⟨Ds',e,⟨S',hc'⟩,u,v⟩;rw [Ad] at u v;exact ⟨Ds',by rw [e];exact Ad _,u,v,trivial⟩
 . rw [G,L];exact @q0e (freG noFG []) P (retF P s.results K) _ _ _ _ _ U ⟨c,[],rfl,X,rfl⟩
 rintro e w' ⟨o,H',C',D,V,I,A,_,Q⟩;exact ⟨o,H',C',D,V,I, @Stp.mk (fgG noFG) E C [] C' H' (q3b A.evo) (λk=>q7N p k (λb j=>absurd j (a b)) (λR=>by cases R) A) (λy=>⟨⟨(q5q p.n y.1.tab λb j=>absurd j (a b)).next A,y.1.old⟩,S,a⟩),Q⟩
def j7B{asg:IC}{fi ca:List SV}(h:Nat)(T:TypeId)(cs:List SV)(Hs:Nat->List SObj->Prop)(X:Nat->Ex->List SObj->Prop)
 (hcell:H[h]?=some (.cells T cs))(hcs:SV.cleanL cs=true)(hgop:evT t gop= .fn f fi ca)(hfi:SV.cleanL fi=true)(hit:IterO False P f fi (mvL h ca) [.cells T cs] N vw)(hlen:∀i n args' new,vw i n args' new->args'.length=ps.size)(hmk:∀n,H[0]?≠some (.mark n))(h0:Hs 0 (H.set h .dead))(hns:noStopI k=true)
 (hround:∀i Hi args' new,i<N->Hs i Hi->vw i Hi.length args' new->∀L1 L2, @SoundI (pinG g L1) P (λ_ _ _=>False)
  ⟨(Hi++new).length,[.ic asg,.stop λt' H'=> @SoundI (pinG g L2) P (RQ Hs X i) ⟨H'.length,[.ic body],t',H'⟩],putL ps.toList args' t,Hi++new⟩)
 (hdone:∀D Hn,Hs N Hn-> @SoundI (topG g (D :: Ds)) P AQ ⟨k0,k,t,Hn⟩)(hstop:∀D i ex Hn,i<N->X i ex Hn->RfStopI g P AQ k0 k t (D :: Ds) ex Hn):
 @SoundI (freG g Ds) P AQ ⟨k0,.ic (.rf gop ps asg body) :: k,t,H⟩:=
 j3f (G0:=freG g Ds) (inf:=False) Hs X (λh=>⟨h.1,.inr h.2⟩) (λh=>h) (λ_ h=>h) hgop hfi (z7i hcell hcs) (λn hn=>absurd hn (hmk n)) hit (λh=>h.elim) hlen h0 hns hround hdone hstop
end Go.Sx
namespace Go.Proofs.YthbcodbcndiapaaGreatDoor
open Go Go.Sx Go.Proofs
set_option maxRecDepth 100000
set_option maxHeartbeats 4000000
def szB(s:ByteArray):Bool:=decide (1<=(s.size:Int)) && decide ((s.size:Int)<=32)
theorem j8l(s:ByteArray):PC Tryz.prog 178 [rS s] (rB (szB s)):=by refine q0s rfl rfl ?_;refine rQ fi178 ?_;grind [szB]
theorem j7p(s:ByteArray):PC Tryz.prog 240 [rS s,rS ⟨#[46]⟩] (rI (Lib.indexByte s.data.toList 46)):=by
 refine j2r (vs:=[.string s,.string ⟨#[46]⟩]) (by kernel_rfl) λw=> ?_;have b (w:World):Calls Tryz.prog 257 #[.string s,.int .u8 46] w λe w'=>e= .returned (.int .i64 (Lib.indexByte s.data.toList 46))/\w'=w:=by
  go_enter Tryz.func257,Tryz.ntmps257;go_wp2;rw [run_callFunc_extern Tryz.func280 (by kernel_rfl) (by kernel_rfl) (by kernel_rfl) (e:=Extern.BytealgIndexByte.indexByte) (by kernel_rfl),Lib.run_indexByteString];simp only [Result.andThen];rw [Oper.upon_value];go_wp2;go_ret
  simp_all
 by_cases a:s=⟨#[46]⟩
 . subst a;go_enter Tryz.func240,Tryz.ntmps240;go_wp2;go_ret;exact ⟨by rfl,RowKit.Below.refl _ _⟩
 have hne:([46]==s.toList)=false:=by
  rw [beq_eq_false_iff_ne];intro h
  simp_all [ByteArray.toList_eq]
 go_enter Tryz.func240,Tryz.ntmps240
 go_wp2_with (go_at_call 257;refine (b _).mono ?_;rintro e w' ⟨rfl,rfl⟩)
 go_ret;exact ⟨rfl,RowKit.Below.refl _ _⟩
def j8M(s:ByteArray):PC Tryz.prog 227 [rS s,rS ⟨#[46]⟩] (rI (Lib.indexByte s.data.toList 46)):=by refine q0s rfl rfl ?_;refine rQ fi227 ?_;refine cQ (j7p s) ?_;trivial

variable {α:Type}{l:List α}
theorem j3u{d:α}{j:Nat}(h:j<l.length):l.getD j d=l[j]:=by simp_all
theorem q9s{d:α}{q:α->Bool}:allN l.length (λj=>q (l.getD j d))=l.all q:=by
 rw [Bz,q2I,Bj];constructor
 . intro h x a;obtain ⟨j,hj,rfl⟩:=AT a
   simp_all
 simp_all
def splitGo:List UInt8->List UInt8->List (List UInt8)
 |cur,[]=>[cur.reverse]
 |cur,c :: cs=>if c==46 then cur.reverse :: splitGo [] cs else splitGo (c :: cur) cs
def splitDot(l:List UInt8):List (List UInt8):=splitGo [] l
theorem q6e:∀ (l a:List UInt8),Lib.indexByte l 46= -1->splitGo a l= [a.reverse++l]
 | [],a,_=>by simp [splitGo]
 |c :: l,a,h=>by
  unfold Lib.indexByte at h;by_cases b:(c==46)=true
  . simp_all
  have hg:=Lib.indexByte_ge l 46;rw [if_neg b] at h;have e:Lib.indexByte l 46= -1:=by grind
  unfold splitGo;rw [if_neg b,q6e l (c :: a) e];simp
theorem q5W:∀ (l a:List UInt8) (i:Nat),Lib.indexByte l 46=(i:Int)->i<l.length/\splitGo a l=(a.reverse++l.take i) :: splitGo [] (l.drop (i+1))
 | [],a,i,h=>by grind [Lib.indexByte]
 |c :: l,a,i,h=>by
  unfold Lib.indexByte at h;by_cases e:(c==46)=true
  . rw [if_pos e] at h;obtain rfl:i=0:=by omega
    simp_all [splitGo]
  rw [if_neg e] at h;by_cases b:(Lib.indexByte l 46== -1)=true
  . simp_all
  rw [if_neg b] at h;have hg:=Lib.indexByte_ge l 46;simp at b;obtain ⟨j,rfl⟩:∃j,i=j+1:=⟨i-1,by omega⟩
  obtain ⟨h3,h4⟩:=q5W l (c :: a) j (by omega)
  simp_all [splitGo]
def splitB(s:ByteArray):List ByteArray:=(splitDot s.data.toList).map λl=>⟨l.toArray⟩
theorem z1Z(s:ByteArray)(h:Lib.indexByte s.data.toList 46= -1):splitB s= [s]:=by simp_all [splitB,splitDot,q6e]
theorem z2C(s:ByteArray)(i:Nat)(h:Lib.indexByte s.data.toList 46=(i:Int)):i<s.size/\splitB s=s.extract 0 i :: splitB (s.extract (i+1) s.size):=by
 obtain ⟨h1,h2⟩:=q5W s.data.toList [] i h
 simp_all [splitB,splitDot,Lib.extract_eq,Aa]
def realmChar(c:UInt8):Bool:=(decide (65<=c.toNat) && decide (c.toNat<=90)) || (decide (48<=c.toNat) && decide (c.toNat<=57)) ||c==45
def labelB(l:ByteArray):Bool:=decide (0<l.size) && l.data.toList.all realmChar
def realmB(s:ByteArray):Bool:=szB s&& (splitB s).all labelB

theorem z1r(s:ByteArray):∀x∈splitB s,x.size<=s.size:=by
 have h:∀ (l a:List UInt8),∀y∈splitGo a l,y.length<=a.length+l.length:=by
  intro l;induction l with
  |nil=>grind [splitGo]
  |cons c l ih=>intro a y b;unfold splitGo at b;grind
 intro x e;unfold splitB at e;obtain ⟨y,b,rfl⟩:=BZ.1 e;have:=h _ [] y b;simp at this;exact this
def vwS(s:ByteArray):Nat->Nat->List SV->List SObj->Prop:=λi _ args' new=>args'= [rS ((splitB s).getD i ⟨#[]⟩)]/\new= []
theorem z5b(s:ByteArray):PE Tryz.prog 205 [rS s,rS ⟨#[46]⟩,rI 0] [] (.ret (.fn 225 [] [.iptr .str ⟨#[46]⟩ 0,.ptr 0 0,.iptr (.int .i64) 0 0])) [.cells 9 [rS s],.dead,.dead]:=by
 refine q1Q fi205 ?_;refine uQ 5 _ ?_;with_reducible refine sxE ?_
 refine q1N 4 1 (ty:=.str) (x:=⟨#[46]⟩) rfl (show (1:Nat)<=140737488355328 by decide) rfl rfl ?_;refine q1N 5 2 (ty:=.int .i64) (x:=0) rfl trivial rfl rfl ?_;refine gQ ?_;trivial
def z2L(s:ByteArray):PE Tryz.prog 179 [rS s,rS ⟨#[46]⟩] [] (.ret (.fn 225 [] [.iptr .str ⟨#[46]⟩ 0,.ptr 0 0,.iptr (.int .i64) 0 0])) [.cells 9 [rS s],.dead,.dead]:=by refine q1Q fi179 ?_;refine gQ ?_;refine eQ [] (z5b s) ?_;trivial
def cutB(s:ByteArray):Nat->ByteArray
 |0=>s
 |i+1=>(cutB s i).extract ((Lib.indexByte (cutB s i).data.toList 46).toNat+1) (cutB s i).size
theorem z3b(s:ByteArray)(hs:s.size<=140737488355328):IterO False Tryz.prog 225 [] [.iptr .str ⟨#[46]⟩ 0,.ptr 1 0,.iptr (.int .i64) 0 0] [.cells 9 [rS s]] (splitB s).length (vwS s):=by
 refine ⟨by kernel_rfl,λl B J o x _=> ?_⟩;refine (q1D (yFG o) fi225 ?_).2;letI:Ghost:=topG (yFG o) [];have m:(((#[46]:Array UInt8).size:Nat):Int)=1:=rfl;refine gy1 m ?_;refine q0p (ι:=Nat) (λ_=>[]) (λi=>[.mark i,.cells 9 [rS (cutB s i)]]) (λi=>(splitB s).length-i) (λi=>(splitB s).drop i=splitB (cutB s i)/\(cutB s i).size<=s.size) 0 ⟨rfl,Ac _⟩ rfl ?_ ?_
 . with_reducible refine sxE ?_;trivial
 rintro i ⟨a,hcs⟩;have b:cutB s (i+1)=(cutB s i).extract ((Lib.indexByte (cutB s i).data.toList 46).toNat+1) (cutB s i).size:=rfl;have j:=j8M (cutB s i);have hge:=Lib.indexByte_ge (cutB s i).data.toList 46;generalize cutB s i=t at*;by_cases C:Lib.indexByte t.data.toList 46<0
 . have v:=z1Z t (by omega);rw [v] at a;have e:=congrArg List.length a;simp at e;have p:(splitB s).getD i ⟨#[]⟩=t:=by have:=congrArg (λl=>l.getD 0 ⟨#[]⟩) a;simpa [Ae] using this
   refine gQ ?_;refine cQ j ?_;refine ⟨λ_=> ?_,λh=>absurd C h⟩;refine q1K [.cells 9 [rS t]] o x (i:=i) (by omega) (λn=>⟨_,_,⟨by rw [p],rfl⟩,q0M rfl⟩) λc=> ?_;cases c
   . refine gQ ?_;exact ⟨_,_,rfl,rfl,by omega⟩
   refine gQ ?_;exact ⟨_,_,rfl,rfl,by omega⟩
 obtain ⟨k,u⟩:∃k:Nat,Lib.indexByte t.data.toList 46=(k:Int):=⟨_,(Int.toNat_of_nonneg (by omega)).symm⟩
 obtain ⟨v,A⟩:=z2C t k u;rw [u] at j b;rw [A] at a;have e:=congrArg List.length a;simp at e;have p:(splitB s).getD i ⟨#[]⟩=t.extract 0 k:=by have:=congrArg (λl=>l.getD 0 ⟨#[]⟩) a;simpa [Ae] using this
 have y:(splitB s).drop (i+1)=splitB (t.extract (k+1) t.size):=by rw [<-AW,a];rfl
 have D:IntKind.i64.wrap (k:Int)=k:=wrapi (by omega);have z:IntKind.i64.wrap ((k:Int)+1)=((k+1:Nat):Int):=q2w (by omega);refine gQ ?_;refine q0b j ?_;refine gy3 Int.add_zero D Av ?_;refine ⟨λh=>absurd h (by omega),λ_=>⟨⟨by omega,by omega⟩,?_⟩⟩;refine q1K [.cells 9 [rS t]] o x (i:=i) (by omega) (λn=>⟨_,_,⟨by rw [p],rfl⟩,q0M rfl⟩) λc=> ?_;cases c
 . refine gQ ?_;exact ⟨_,_,rfl,rfl,by omega⟩
 refine gy3 m z Av ?_;refine ⟨⟨by omega,by omega⟩,i+1,⟨?_,?_⟩,by show _- (i+1) <_-i;omega,?_,?_⟩
 . rw [y,b];rfl
 . rw [b];simp;omega
 . show _= [SObj.mark (i+1),SObj.cells _ [rS (cutB s (i+1))]];rw [b];rfl
 with_reducible refine sxE ?_;trivial
variable {c:UInt8}
theorem j8u{n:Nat}(hn:n<256):c=UInt8.ofNat n ↔ (c.toNat:Int)=n:=by grind [UInt8.toNat_ofNat',UInt8.toNat_inj]
theorem q9x(c:UInt8):realmChar c=true ↔ (c.toNat:Int)=45\/(65<=(c.toNat:Int)/\(c.toNat:Int)<=90)\/(48<=(c.toNat:Int)/\(c.toNat:Int)<=57):=by have h:=j8u (c:=c) (n:=45) (by decide);simp only [realmChar,CP,Ak,decide_eq_true_eq,beq_iff_eq];grind
def rlmH:List SObj:=[.cells 4 [rB false],.dead,.dead,.dead]
theorem j8z(s:ByteArray)(I:s.size<=140737488355328):PC Tryz.prog 116 [rS s] (rB (realmB s)):=by
 refine q0s rfl rfl (j7K fi116 ?_);letI:Ghost:=freG noFG [];refine gQ ?_;refine cQ (j8l s) ?_;refine ⟨λh=> ?_,λh=> ?_⟩
 . rw [realmB,h];rfl
 refine q0i [] (z2L s) rfl (by decide) trivial rfl rfl ?_;simp only [afterO,Out.ren,SV.ren,mgA,sig,SObj.ren,SV.renL,List.set,List.map,Ad];refine uQ 600 _ ?_;refine j7B 1 _ _ (λi H'=>H'=rlmH/\∀j,j<i->labelB ((splitB s).getD j ⟨#[]⟩)=true) (λi ex H'=>ex= .ret/\H'=rlmH/\labelB ((splitB s).getD i ⟨#[]⟩)=false) rfl rfl rfl rfl (z3b s I) (λi n m B h=>by rw [h.1];rfl) (λn h=>by simp at h) ⟨rfl,λj E=>absurd E (BT j)⟩ rfl ?_ ?_ ?_
 . rintro i _ m B C ⟨rfl,p⟩ ⟨rfl,rfl⟩ O L;letI:Ghost:=pinG noFG O;rw [Ad];obtain ⟨x,v⟩:∃x,x=(splitB s).getD i ⟨#[]⟩:=⟨_,rfl⟩;have hxs:x.size<=s.size:=z1r s x (by simp_all);rw [<-v];unfold rlmH;refine uQ 600 _ ?_;simp only [putL,Bf];with_reducible refine sxE ?_
   letI:Ghost:=pinG noFG L;refine gQ ?_;refine ⟨λy=>⟨rfl,rfl,by rw [<-v,y];rfl⟩,λy=> ?_⟩;refine q4T 16 x.size (λj=>realmChar (x.data.toList.getD j 0)=true) ?_ λk F o=> ?_
   . with_reducible refine sxE ?_;trivial
   refine gQ ?_;have b:k<x.size->¬realmChar (x.data.toList.getD k 0)=true->labelB x=false:=λa K=>by unfold labelB;rw [Bool.and_eq_false_iff];refine .inr (List.all_eq_false.2 ⟨_,q3q (d:=0) (i:=k) (by simp_all),K⟩)
   have u:=q9x (x.data.toList.getD k 0);refine ⟨λa=> ?_,λhge=>⟨rfl,λj E=> ?_⟩⟩
   . have A:=wsx k (by omega);refine ⟨⟨by omega,a⟩,?_⟩;repeat' (first|apply And.intro|intro _)
     all_goals first|omega|exact rfl| (rw [<-v];exact b a (by rw [u];omega)) |refine q6A a o (by rw [u];omega) ?_
     all_goals simp (maxSteps:=3000000) only [A,go_sem,↓zA,↓reduceIte,↓reduceDIte] <;>try simp only [zB]
   by_cases z:j=i
   . subst z;rw [<-v];unfold labelB;rw [Ak,decide_eq_true_eq];refine ⟨Nat.pos_of_ne_zero λe=>y (ByteArray.ext (AV e)),?_⟩;rw [<-q9s (d:=0)];refine q0E λk F=>o k ?_;have:x.data.toList.length=x.size:=by simp
     omega
   grind
 . rintro D _ ⟨rfl,p⟩;letI:Ghost:=topG noFG [D];unfold rlmH;refine gQ ?_;rw [realmB,h,BU];rw [<-q9s (d:=⟨#[]⟩)];grind [q0E]
 rintro D i ex _ C ⟨rfl,rfl,b⟩;have G:realmB s=false:=by rw [realmB,h,BU,<-q9s (d:=⟨#[]⟩)];exact q0C C b
 rw [G];unfold rlmH;show retF _ [.cell 2 4] _ .ret _ _;with_reducible refine sxE ?_;trivial
def visC(c:UInt8):Bool:=decide (33<=(c.toNat:Int)) && decide ((c.toNat:Int)<=126)
theorem j6s(h1:¬(c.toNat:Int) <33)(h2:¬126< (c.toNat:Int)):visC c=true:=by simp [visC];omega
theorem j3z(h1:(c.toNat:Int) <33):visC c=false:=by simp [visC];omega
theorem j4C(h1:126< (c.toNat:Int)):visC c=false:=by simp [visC];omega
def visB(s:ByteArray):Bool:=allN s.size λj=>visC (s.data.toList.getD j 0)
theorem j8B(s:ByteArray)(hs:s.size<=140737488355328):PC Tryz.prog 117 [rS s] (rB (visB s&& szB s)):=by
 refine q0s rfl rfl ?_;refine rQ fi117 ?_;refine q4T 6 s.size (λj=>visC (s.data.toList.getD j 0)=true) ?_ λi hi b=> ?_
 . with_reducible refine sxE ?_;trivial
 refine gQ ?_;refine ⟨λa=>⟨⟨by omega,a⟩,λh=>⟨⟨by omega,a⟩,λe=> ?_,λe=>q6A a b ?_ ?_⟩,λh=> ?_⟩,λhge=>q0b (j8l s) ?_⟩
 . grind [visB,q0C,j4C]
 . grind [j6s]
 . with_reducible refine sxE ?_
   grind [q2w]
 . grind [visB,q0C,j3z]
 refine gQ ?_;grind [visB,q0E]

def fidx(l:List Bool):Int:=if l.all id then -1 else ((l.findIdx (!·):Nat):Int)
variable {l:List Bool}{i:Nat}
theorem j5O(a:i<l.length)(hall:∀j,j<i->l.getD j false=true)(h:l.getD i false=false):fidx l=i:=by
 have b:¬l.all id=true:=λha=>by grind [q3q]
 unfold fidx;rw [if_neg b,Int.ofNat_inj,List.findIdx_eq a];refine ⟨by simp_all,λj hj=> ?_⟩;grind
theorem j3L(hall:∀j,j<l.length->l.getD j false=true):fidx l= -1:=by
 have h1:l.all id=true:=by
  rw [Bj];intro x a;obtain ⟨j,hj,rfl⟩:=AT a
  simp_all
 simp_all [fidx]
theorem j1f(l:List Bool)(hl:l.length<=1125899906842624):PC Tryz.prog 204 [.isl .bool l,rB false] (rI (fidx l)):=by
 refine q0s rfl rfl ?_;refine rQ fi204 ?_;refine q4T 8 l.length (λj=>l.getD j false=true) ?_ λi hi a=> ?_
 . with_reducible refine sxE ?_;trivial
 refine gQ ?_;refine ⟨λb=>⟨⟨by omega,b⟩,λh=> ?_,λh=>q6A b a ?_ ?_⟩,λhge=> ?_⟩
 . grind [j5O]
 . simp_all
 . with_reducible refine sxE ?_
   grind [q2w]
 grind [j3L]
theorem q6Y(l:List Bool)(a:l.length<=1125899906842624):PC Tryz.prog 177 [.isl .bool l,rB false] (rB (!l.all id)):=by refine q0s rfl rfl ?_;refine rQ fi177 ?_;refine cQ (j1f l a) ?_;grind [fidx]
def j7l(l:List Bool)(a:l.length<=1125899906842624):PC Tryz.prog 115 [.isl .bool l] (rB (l.all id)):=by refine q0s rfl rfl ?_;refine rQ fi115 ?_;refine cQ (q6Y l a) ?_;simp

def vPart(s:ByteArray):Bool:=visB s&& szB s
def vPrin(p:Prin):Bool:=(decide (1<=(p.1.length:Int)) && (decide ((p.1.length:Int)<=4) && realmB p.2)) && allN p.1.length λj=>vPart (p.1.getD j ByteArray.empty)
theorem q6K(p:Prin)(e:PrinT.ok p):PC Tryz.prog 43 [.agg (PrinT.cells p)] (rB (vPrin p)):=by
 obtain ⟨l,r⟩:=p;refine q0s rfl rfl ?_;refine rQ fi43 ?_;refine cR (j8z r e.2) ?_;refine q1G 1 (by decide) ?_;with_reducible refine sxE ?_
 refine q0g (j7l _ (by simp)) ?_;refine uQ 600 _ ?_;simp (maxSteps:=3000000) only [BE,Cu,id,go_sem,↓zA,↓reduceIte,↓reduceDIte] <;>try simp only [zB]
 refine ⟨λh=> ?_,λh=> ?_⟩
 . rw [vPrin,h];rfl
 refine q4T 22 l.length (λj=>vPart (l.getD j ByteArray.empty)=true) ?_ λi hi b=> ?_
 . with_reducible refine sxE ?_;trivial
 have hl:l.length<=1125899906842624:=e.1.1;refine gQ ?_;refine ⟨λa=>⟨⟨by omega,a⟩,q0b (j8B _ (e.1.2 _ (q3q a))) ?_⟩,λhge=> ?_⟩
 . refine gQ ?_;refine ⟨λm=> ?_,λm=>q6A a b m ?_⟩
   . grind [vPrin,vPart,q0C]
   with_reducible refine sxE ?_
   grind [q2w]
 grind [vPrin,q0E]
def beN(l:List UInt8):Nat:=l.foldl (λv c=>v*256+c.toNat) 0
theorem q6E(l:List UInt8)(i:Nat)(h:i<l.length):beN (l.take (i+1))=beN (l.take i)*256+ (l.getD i 0).toNat:=by unfold beN;rw [CG,List.foldl_append,Af h,Ae,Af h];rfl
def q8a:∀ (l:List UInt8),beN l<256^ l.length:=by
 intro l;have:∀ (l:List UInt8) (v:Nat),l.foldl (λv c=>v*256+c.toNat) v< (v+1)*256^ l.length:=by
  intro l;induction l with
  |nil=>intro v;simp
  |cons c l b=>
   intro v;have a:=b (v*256+c.toNat);have h2:c.toNat<256:=c.toNat_lt;simp only [Bb,AB,Nat.pow_succ];refine Aj a ?_;have:(v*256+c.toNat+1)*256^ l.length<=((v+1)*256)*256^ l.length:=AX _ (by omega)
   calc _<=_:=this
    _=_:=by rw [Nat.mul_assoc,Nat.mul_comm 256]
 have h:=this l 0;simpa [beN] using h
def q9G(v c:Nat)(hv:v<36028797018963968)(j:c<256):IntKind.i64.wrap ((BitVec.ofInt 64 ((v*256:Nat):Int) |||BitVec.ofInt 64 ((c:Nat):Int)).toNat:Int)=((v*256+c:Nat):Int):=by
 have e:(BitVec.ofInt 64 ((v*256:Nat):Int)).toNat=v*256:=by rw [AK,AR];exact AP (by omega)
 have a:(BitVec.ofInt 64 ((c:Nat):Int)).toNat=c:=by rw [AK,AR];exact AP (by omega)
 have h:v*256|||c=v*256+c:=by have:=Cn (b:=c) (i:=8) j v;rw [CL] at this;exact this.symm
 rw [B8,e,a,h];exact wrapi (by omega)
theorem z5s(b:List UInt8)(hb:b.length<=7):PC Tryz.prog 145 [.isl .u8 b] (rI (beN b)):=by
 refine q0s rfl rfl ?_;refine rQ fi145 ?_;refine q1f (λi=>[(2,rI (beN (b.take i))),(7,.raw (.int .i64 ((i:Nat):Int)))]) (b.length) (λj=>(λ_=>true) j=true) (by first|decide|simp) (λi=>rfl) ?_ λi hi e=> ?_
 . (with_reducible refine sxE ?_<;>try exact True.intro)
   all_goals (try rfl)
 have m:=wsx i (by omega);refine gQ ?_;have n:i< (b.length)->(λ_=>true) i=false->allN (b.length) (λ_=>true)=false:=λa o=>q0C a o;have fin:¬i< (b.length)->allN (b.length) (λ_=>true)=true:=λh=>q0E λj hj=>e j (by omega);try dsimp only at n fin e
 refine ⟨λa=>⟨⟨by omega,a⟩,?_⟩,λhge=> ?_⟩
 . have o:=q8a (b.take i);have hv2:256^ (b.take i).length<=256^ 6:=Bk (by decide) (by simp;omega);have v:(b.getD i Ty.u8.dflt).toNat<256:=BW _;have p:IntKind.i64.wrap ((beN (b.take i):Int)*2^ min 8 64)=((beN (b.take i)*256:Nat):Int):=by rw [show ((beN (b.take i):Int)*2^ min 8 64)=((beN (b.take i)*256:Nat):Int) by simp];exact wrapi (by omega)
   have x:IntKind.i64.wrap ((b.getD i Ty.u8.dflt).toNat:Int)=(((b.getD i Ty.u8.dflt).toNat:Nat):Int):=wrapi (by omega);have s:=q9G (beN (b.take i)) (b.getD i Ty.u8.dflt).toNat (by omega) v;have u:=q6E b i a;rw [p,x];refine ⟨a,trivial,⟨[],rfl⟩,?_⟩;with_reducible refine sx1 m ?_
   rw [u];exact congrArg (Value.int .i64) s
 obtain rfl:i=b.length:=by omega
 rw [Aw]
def minLen:Nat->Nat
 |1=>128|2=>256|3=>65536|_=>0
def measE(b:List UInt8)(at_ n:Nat):Nat×Nat×Nat:=if b.length-at_<n then (0,0,4) else (at_,at_+n,0)
def meas(b:List UInt8):Nat×Nat×Nat:=
 if b.length<2 then (0,0,4) else
 if (b.getD 1 0).toNat<128 then measE b 2 (b.getD 1 0).toNat else
 if (b.getD 1 0).toNat-128<1\/3< (b.getD 1 0).toNat-128 then (0,0,6) else
 if b.length<2+ ((b.getD 1 0).toNat-128) then (0,0,4) else
 if beN ((b.drop 2).take ((b.getD 1 0).toNat-128)) <minLen ((b.getD 1 0).toNat-128) then (0,0,6) else
 measE b (2+ ((b.getD 1 0).toNat-128)) (beN ((b.drop 2).take ((b.getD 1 0).toNat-128)))
def measV(m:Nat×Nat×Nat):SV:=.tup [rI m.1,rI m.2.1,rI m.2.2]
theorem z7X(b:List UInt8)(hb:b.length<=1099511627776):PC Tryz.prog 213 [.isl .u8 b] (measV (meas b)):=by
 refine q0s rfl rfl ?_;have hx:(b.getD 1 Ty.u8.dflt).toNat<256:=BW _;have X:IntKind.i64.wrap ((b.getD 1 Ty.u8.dflt).toNat:Int)=(((b.getD 1 Ty.u8.dflt).toNat:Nat):Int):=wrapi (by omega);have z:IntKind.i64.wrap (((b.getD 1 Ty.u8.dflt).toNat:Int) -128)=((b.getD 1 Ty.u8.dflt).toNat:Int) -128:=wrapi (by omega);have y:IntKind.i64.wrap (2+ (((b.getD 1 Ty.u8.dflt).toNat:Int) -128))=2+ (((b.getD 1 Ty.u8.dflt).toNat:Int) -128):=wrapi (by omega);have A:IntKind.i64.wrap ((b.length:Int) -2)=(b.length:Int) -2:=wrapi (by omega);have B:IntKind.i64.wrap (2+ ((b.getD 1 Ty.u8.dflt).toNat:Int))=2+ ((b.getD 1 Ty.u8.dflt).toNat:Int):=wrapi (by omega);have hm:∀r,meas b=r->measV (meas b)=measV r:=λr h=>by rw [h]
 unfold measV;refine ry5 fi213 X z y A B ?_;have C:b.getD 1 0=b.getD 1 Ty.u8.dflt:=rfl;generalize hxx:b.getD 1 Ty.u8.dflt=x at*;refine ⟨λh=> ?_,λh=>⟨by omega,λY=>⟨λS=>⟨λZ=> ?_,λZ=>⟨λh5=> ?_,λh5=>⟨⟨by omega,by omega,by omega⟩,?_⟩⟩⟩,λS=> ?_⟩,λY=>⟨λS=> ?_,λS=> ?_⟩⟩⟩
 . have:meas b=(0,0,4):=by unfold meas;rw [if_pos (by omega)]
   rw [this];rfl
 . have:meas b=(0,0,6):=by unfold meas;rw [C,if_neg (by omega),if_neg (by omega),if_pos (by omega)]
   rw [this];rfl
 . have:meas b=(0,0,4):=by unfold meas;rw [C,if_neg (by omega),if_neg (by omega),if_neg (by omega),if_pos (by omega)]
   rw [this];rfl
 . obtain ⟨m,U⟩:∃m:Nat,(x.toNat:Int) -128=(m:Int):=⟨x.toNat-128,by omega⟩
   have hm3:1<=m/\m<=3:=by omega
   have R:((2:Int)+ (m:Int)).toNat=2+m:=by omega
   have u:(List.drop 2 (List.take (2+m) b)).length=m:=by simp;omega
   rw [U,R,u];generalize hL:List.drop 2 (List.take (2+m) b)=L at*;have n:∀v,beN L=v->meas b=(if v<minLen m then (0,0,6) else measE b (2+m) v):=λv o=>by
    have Q:(b.drop 2).take m=L:=by rw [<-hL,Bt];congr 1;omega
    unfold meas;rw [C,show x.toNat-128=m by omega,if_neg (by omega),if_neg (by omega),if_neg (by omega),if_neg (by omega),Q,o]
   rcases (by omega:m=1\/m=2\/m=3) with rfl|rfl|rfl
   . refine q1f (λi=>[(5,rI (beN (L.take i))),(39,.raw (.int .i64 ((i:Nat):Int)))]) (1) (λj=>(λ_=>true) j=true) (by first|decide|simp) (λi=>rfl) ?_ λi V a=> ?_
     . (with_reducible refine sxE ?_<;>try exact True.intro)
       all_goals (try rfl)
     have s:=wsx i (by omega);refine gQ ?_;have p:i< (1)->(λ_=>true) i=false->allN (1) (λ_=>true)=false:=λe o=>q0C e o;have fin:¬i< (1)->allN (1) (λ_=>true)=true:=λh=>q0E λj W=>a j (by omega);try dsimp only at p fin a
     refine ⟨λe=>⟨⟨by omega,by omega⟩,?_⟩,λD=> ?_⟩
     . have o:=q8a (L.take i);have F:256^ (L.take i).length<=256^ 6:=Bk (by decide) (by simp;omega);have K:(L.getD i Ty.u8.dflt).toNat<256:=BW _;have z:IntKind.i64.wrap ((beN (L.take i):Int)*2^ min 8 64)=((beN (L.take i)*256:Nat):Int):=by rw [show ((beN (L.take i):Int)*2^ min 8 64)=((beN (L.take i)*256:Nat):Int) by simp];exact wrapi (by omega)
       have y:IntKind.i64.wrap ((L.getD i Ty.u8.dflt).toNat:Int)=(((L.getD i Ty.u8.dflt).toNat:Nat):Int):=wrapi (by omega);have A:=q9G (beN (L.take i)) (L.getD i Ty.u8.dflt).toNat (by omega) K;have B:=q6E L i (by omega);rw [z,y];refine ⟨e,trivial,⟨[],rfl⟩,?_⟩;with_reducible refine sx1 s ?_
       rw [B];exact congrArg (Value.int .i64) A
     rw [Aa (by omega:L.length<=i)];have o:=q8a L;rw [u] at o;have G:beN L<16777216:=by omega
     have E:IntKind.i64.wrap ((b.length:Int) - (2+ ((1:Nat):Int)))=(b.length:Int) - (2+ ((1:Nat):Int)):=wrapi (by omega);have I:IntKind.i64.wrap (2+ ((1:Nat):Int)+ (beN L:Int))=((2+1+beN L:Nat):Int):=by rw [wrapi (by omega)];omega
     rw [E,I];refine ⟨by decide,λq=> ?_,λq=>⟨λO=> ?_,λO=> ?_⟩⟩
     . rw [n _ rfl,if_pos (by simp only [minLen];omega)];rfl
     . rw [n _ rfl,if_neg (by simp only [minLen];omega)];unfold measE;rw [if_pos (by omega)];rfl
     rw [n _ rfl,if_neg (by simp only [minLen];omega)];unfold measE;rw [if_neg (by omega)];rfl
   . refine q1f (λi=>[(5,rI (beN (L.take i))),(39,.raw (.int .i64 ((i:Nat):Int)))]) (2) (λj=>(λ_=>true) j=true) (by first|decide|simp) (λi=>rfl) ?_ λi V a=> ?_
     . (with_reducible refine sxE ?_<;>try exact True.intro)
       all_goals (try rfl)
     have s:=wsx i (by omega);refine gQ ?_;have p:i< (2)->(λ_=>true) i=false->allN (2) (λ_=>true)=false:=λe o=>q0C e o;have fin:¬i< (2)->allN (2) (λ_=>true)=true:=λh=>q0E λj W=>a j (by omega);try dsimp only at p fin a
     refine ⟨λe=>⟨⟨by omega,by omega⟩,?_⟩,λD=> ?_⟩
     . have o:=q8a (L.take i);have F:256^ (L.take i).length<=256^ 6:=Bk (by decide) (by simp;omega);have K:(L.getD i Ty.u8.dflt).toNat<256:=BW _;have z:IntKind.i64.wrap ((beN (L.take i):Int)*2^ min 8 64)=((beN (L.take i)*256:Nat):Int):=by rw [show ((beN (L.take i):Int)*2^ min 8 64)=((beN (L.take i)*256:Nat):Int) by simp];exact wrapi (by omega)
       have y:IntKind.i64.wrap ((L.getD i Ty.u8.dflt).toNat:Int)=(((L.getD i Ty.u8.dflt).toNat:Nat):Int):=wrapi (by omega);have A:=q9G (beN (L.take i)) (L.getD i Ty.u8.dflt).toNat (by omega) K;have B:=q6E L i (by omega);rw [z,y];refine ⟨e,trivial,⟨[],rfl⟩,?_⟩;with_reducible refine sx1 s ?_
       rw [B];exact congrArg (Value.int .i64) A
     rw [Aa (by omega:L.length<=i)];have o:=q8a L;rw [u] at o;have G:beN L<16777216:=by omega
     have E:IntKind.i64.wrap ((b.length:Int) - (2+ ((2:Nat):Int)))=(b.length:Int) - (2+ ((2:Nat):Int)):=wrapi (by omega);have I:IntKind.i64.wrap (2+ ((2:Nat):Int)+ (beN L:Int))=((2+2+beN L:Nat):Int):=by rw [wrapi (by omega)];omega
     rw [E,I];refine ⟨by decide,λq=> ?_,λq=>⟨λO=> ?_,λO=> ?_⟩⟩
     . rw [n _ rfl,if_pos (by simp only [minLen];omega)];rfl
     . rw [n _ rfl,if_neg (by simp only [minLen];omega)];unfold measE;rw [if_pos (by omega)];rfl
     rw [n _ rfl,if_neg (by simp only [minLen];omega)];unfold measE;rw [if_neg (by omega)];rfl
   refine q1f (λi=>[(5,rI (beN (L.take i))),(39,.raw (.int .i64 ((i:Nat):Int)))]) (3) (λj=>(λ_=>true) j=true) (by first|decide|simp) (λi=>rfl) ?_ λi V a=> ?_
   . (with_reducible refine sxE ?_<;>try exact True.intro)
     all_goals (try rfl)
   have s:=wsx i (by omega);refine gQ ?_;have p:i< (3)->(λ_=>true) i=false->allN (3) (λ_=>true)=false:=λe o=>q0C e o;have fin:¬i< (3)->allN (3) (λ_=>true)=true:=λh=>q0E λj W=>a j (by omega);try dsimp only at p fin a
   refine ⟨λe=>⟨⟨by omega,by omega⟩,?_⟩,λD=> ?_⟩
   . have o:=q8a (L.take i);have F:256^ (L.take i).length<=256^ 6:=Bk (by decide) (by simp;omega);have K:(L.getD i Ty.u8.dflt).toNat<256:=BW _;have z:IntKind.i64.wrap ((beN (L.take i):Int)*2^ min 8 64)=((beN (L.take i)*256:Nat):Int):=by rw [show ((beN (L.take i):Int)*2^ min 8 64)=((beN (L.take i)*256:Nat):Int) by simp];exact wrapi (by omega)
     have y:IntKind.i64.wrap ((L.getD i Ty.u8.dflt).toNat:Int)=(((L.getD i Ty.u8.dflt).toNat:Nat):Int):=wrapi (by omega);have A:=q9G (beN (L.take i)) (L.getD i Ty.u8.dflt).toNat (by omega) K;have B:=q6E L i (by omega);rw [z,y];refine ⟨e,trivial,⟨[],rfl⟩,?_⟩;with_reducible refine sx1 s ?_
     rw [B];exact congrArg (Value.int .i64) A
   rw [Aa (by omega:L.length<=i)];have o:=q8a L;rw [u] at o;have G:beN L<16777216:=by omega
   have E:IntKind.i64.wrap ((b.length:Int) - (2+ ((3:Nat):Int)))=(b.length:Int) - (2+ ((3:Nat):Int)):=wrapi (by omega);have I:IntKind.i64.wrap (2+ ((3:Nat):Int)+ (beN L:Int))=((2+3+beN L:Nat):Int):=by rw [wrapi (by omega)];omega
   rw [E,I];refine ⟨by decide,λq=> ?_,λq=>⟨λO=> ?_,λO=> ?_⟩⟩
   . rw [n _ rfl,if_pos (by simp only [minLen];omega)];rfl
   . rw [n _ rfl,if_neg (by simp only [minLen];omega)];unfold measE;rw [if_pos (by omega)];rfl
   rw [n _ rfl,if_neg (by simp only [minLen];omega)];unfold measE;rw [if_neg (by omega)];rfl
 . have:meas b=(0,0,6):=by unfold meas;rw [C,if_neg (by omega),if_neg (by omega),if_pos (by omega)]
   rw [this];rfl
 . have:meas b=(0,0,4):=by unfold meas;rw [C,if_neg (by omega),if_pos (by omega)];unfold measE;rw [if_pos (by omega)]
   rw [this];rfl
 have:meas b=(2,2+x.toNat,0):=by unfold meas;rw [C,if_neg (by omega),if_pos (by omega)];unfold measE;rw [if_neg (by omega)]
 rw [this];rfl
def byteOf(x:Int):UInt8:=UInt8.ofNat (IntKind.u8.wrap x).toNat
def u8wrap(x:Int):0<=IntKind.u8.wrap x/\IntKind.u8.wrap x<256:=by
 have h:IntKind.u8.wrap x=x%256:=by simp [IntKind.wrap,IntKind.bits,IntKind.signed]
 rw [h];omega
def q5G(x:Int):((UInt8.ofNat (IntKind.u8.wrap x).toNat).toNat:Int)=IntKind.u8.wrap x:=by have:=u8wrap x;rw [AZ];omega
def j2B(c:UInt8):((UInt8.ofNat c.toNat).toNat:Int)=c.toNat:=by simp
def lenS(n:Nat):List UInt8:=
 if n<128 then [byteOf n] else if n<256 then [129,byteOf n] else if n<65536 then [130,byteOf ((n:Int).fdiv 256),byteOf n] else [131,byteOf ((n:Int).fdiv 65536),byteOf ((n:Int).fdiv 256),byteOf n]
def tlv(tag:UInt8)(c:List UInt8):List UInt8:=tag :: (lenS c.length++c)
def elemS(tag:UInt8)(parts:List (List UInt8)):List UInt8:=if parts.flatten.length<=16777215 then tlv tag parts.flatten else []
def flatN(parts:List (List UInt8))(i:Nat):List UInt8:=(parts.take i).flatten
def q5C{parts:List (List UInt8)}(h:i<parts.length):flatN parts (i+1)=flatN parts i++parts.getD i (Ty.slice .u8).dflt:=by unfold flatN;rw [q1W (d:=(Ty.slice .u8).dflt) h];simp
def z1m(parts:List (List UInt8)):flatN parts parts.length=parts.flatten:=by unfold flatN;rw [Aw]
def z0x(parts:List (List UInt8))(i:Nat):(flatN parts i).length<=parts.flatten.length:=by unfold flatN;have:=congrArg List.flatten (AA i parts);rw [BC] at this;rw [<-this];simp
def fitAt(parts:List (List UInt8))(j:Nat):Bool:=decide ((flatN parts (j+1)).length<=16777215)

theorem z9z(tag:UInt8)(parts:List (List UInt8))(hp:parts.length<=1125899906842624):PC Tryz.prog 110 [.raw (.int .u8 tag.toNat),.isl (.slice .u8) parts] (.isl .u8 (elemS tag parts)):=by
 refine q0l rfl rfl ?_;refine rQ fi110 ?_;refine q1f (λi=>[(5,rI ((flatN parts i).length)),(13,.raw (.int .i64 ((i:Nat):Int)))]) (parts.length) (λj=>(fitAt parts) j=true) (by first|decide|simp) (λi=>rfl) ?_ λi z b=> ?_
 . (with_reducible refine sxE ?_<;>try exact True.intro)
   all_goals (try rfl)
 have e:=wsx i (by omega);refine gQ ?_;have s:i< (parts.length)->(fitAt parts) i=false->allN (parts.length) (fitAt parts)=false:=λa C=>q0C a C;have fin:¬i< (parts.length)->allN (parts.length) (fitAt parts)=true:=λh=>q0E λj hj=>b j (by omega);try dsimp only at s fin b
 have A:(flatN parts i).length<=16777215:=by
  cases i with
  |zero=>simp [flatN]
  |succ j=>have:=b j (by omega);simpa [fitAt] using this
 rw [wrapi (n:=16777215- ((flatN parts i).length:Int)) (by omega),wrapi (n:=((flatN parts i).length:Int)+5) (by omega)];refine ⟨λa=>⟨⟨by omega,a⟩,λhbig=> ?_,λhfit=> ?_⟩,λo=> ?_⟩
 . have u:=z0x parts (i+1);rw [q5C a,Ab] at u;unfold elemS;rw [if_neg (by omega)]
 . have p:((flatN parts i).length:Int)+ ((parts.getD i (Ty.slice .u8).dflt).length:Int)=((flatN parts (i+1)).length:Int):=by rw [q5C a,Ab];rfl
   have x:(flatN parts (i+1)).length<=16777215:=by omega
   refine ⟨a,q1t b (by simpa [fitAt] using x),⟨_,rfl⟩,?_⟩;rw [p,wrapi (n:=((flatN parts (i+1)).length:Int)) (by omega)];with_reducible refine sx1 e ?_;trivial
 obtain rfl:i=parts.length:=by omega
 rw [z1m] at*;have B:elemS tag parts=tag :: (lenS parts.flatten.length++flatN parts parts.length):=by unfold elemS tlv;rw [if_pos A,z1m]
 refine ⟨⟨by omega,by omega,by omega⟩,j2B tag,λu=>⟨q5G _,?_⟩,λu=>⟨λp=>⟨?_,?_⟩,λp=>⟨λx=>⟨?_,?_⟩,λx=>⟨?_,?_⟩⟩⟩⟩;any_goals (repeat' (first|exact q5G _|exact rfl|with_reducible refine And.intro ?_ ?_))
 have m:lenS parts.flatten.length= [byteOf parts.flatten.length]:=by unfold lenS;rw [if_pos (by omega)]
 rotate_left;have m:lenS parts.flatten.length= [129,byteOf parts.flatten.length]:=by unfold lenS;rw [if_neg (by omega),if_pos (by omega)]
 rotate_left;have m:lenS parts.flatten.length= [130,byteOf ((parts.flatten.length:Int).fdiv 256),byteOf parts.flatten.length]:=by unfold lenS;rw [if_neg (by omega),if_neg (by omega),if_pos (by omega)]
 rotate_left;have m:lenS parts.flatten.length= [131,byteOf ((parts.flatten.length:Int).fdiv 65536),byteOf ((parts.flatten.length:Int).fdiv 256),byteOf parts.flatten.length]:=by unfold lenS;rw [if_neg (by omega),if_neg (by omega),if_neg (by omega)]
 rotate_left;all_goals
  refine j4v (H:=[_,_,_,_]) 8 .u8 (λi=>tag :: (lenS parts.flatten.length++flatN parts i)) (λi=>[(44,.any),(52,.any),(60,.any),(71,.any),(74,rI i)]) parts.length (λ_=>True) (by rw [m];simp [flatN,byteOf]) (by simp) rfl (λi=>rfl) ?_ λi z _=> ?_
  . with_reducible refine sx1 m ?_
    simp [flatN]
  have e:=wsx i (by omega);have hfl:=z0x parts i;have hll:(lenS parts.flatten.length).length<=4:=by rw [m];simp
  refine gQ ?_;have e1:(lenS parts.flatten.length++flatN parts i).length=(lenS parts.flatten.length).length+ (flatN parts i).length:=Ab;refine ⟨λa=> ?_,λo=> ?_⟩
  . have y:=z0x parts (i+1);have v:=q5C a;rw [v,Ab] at y;refine ⟨⟨by omega,a⟩,⟨by omega,by omega⟩,q3g [.dead] [] a trivial (by rw [v,<-List.append_assoc];rfl) ?_⟩;with_reducible refine sx3 e v ?_
    exact congrArg (SV.bld 5 .u8) (by omega)
  obtain rfl:i=parts.length:=by omega
  rw [Aa (Ac _)];exact ⟨⟨Ac _,by omega⟩,B.symm⟩
def byteAt(v:Int)(k:Nat):UInt8:=byteOf (v.fdiv (2^ min (8*k) 64))
def numN(v:Int)(size i:Nat):List UInt8:=(List.range size).map λj=>if size-1-j<i then byteAt v (size-1-j) else 0
def numS(v:Int)(size:Nat):List UInt8:=(List.range size).map λj=>byteAt v (size-1-j)
def z7x(v:Int)(size:Nat):List.replicate size (0:UInt8)=numN v size 0:=by
 apply Aq
 . simp [numN]
 intro j h1 h2;simp [numN]
def j0F(v:Int)(size:Nat):numN v size size=numS v size:=by
 apply Aq
 . simp [numN,numS]
 intro j a h2;simp [numN,numS];simp [numN] at a;intro h;omega
theorem j2s{v:Int}{size:Nat}(h:i<size):(numN v size i).set (size-1-i) (byteAt v i)=numN v size (i+1):=by
 apply Aq
 . simp [numN]
 intro j h1 b;simp [numN] at b;simp only [numN,A4,AM,AD];split
 . rename_i e;have:size-1-j=i:=by omega
   rw [this,if_pos (by omega)]
 rename_i e;by_cases a:size-1-j<i
 . rw [if_pos a,if_pos (by omega)]
 rw [if_neg a,if_neg (by omega)]
def z4v(v:Int)(size:Nat)(hs:size<=64):PC Tryz.prog 114 [rI v,rI size] (.isl .u8 (numS v size)):=by
 refine q0l rfl rfl ?_;refine rQ fi114 ?_;refine ⟨by omega,?_⟩;refine q0p (ι:=Nat) (λi=>[(11,rI i)]) (λi=>[.row .u8 (numN v size i)]) (λi=>size-i) (λi=>i<=size) 0 (Ai _) (by rw [<-z7x];rfl) ?_ ?_
 . with_reducible refine sxE ?_;trivial
 intro i hi;have m:IntKind.i64.wrap (8* (i:Int))=((8*i:Nat):Int):=by rw [wrapi (by omega)];rfl
 have e:=wsx i (by omega);have b:(numN v size i).length=size:=by simp [numN]
 by_cases a:i<size
 . have j:IntKind.i64.wrap ((size:Int) -1)=((size-1:Nat):Int):=by rw [wrapi (by omega)];omega
   have n:IntKind.i64.wrap (((size-1:Nat):Int) - (i:Int))=((size-1-i:Nat):Int):=by rw [wrapi (by omega)];omega
   refine gy4 j n m b ?_;refine ⟨λ_=>⟨by omega,⟨by omega,by omega⟩,⟨by omega,q5G _⟩,i+1,a,by dsimp only;omega,?_,?_⟩,λh=>absurd a h⟩
   . dsimp only;rw [<-j2s a,Nat.zero_add];rfl
   with_reducible refine sx1 e ?_;trivial
 refine uQ 600 _ ?_;with_reducible refine sx1 b ?_
 refine ⟨λh=>absurd h a,λ_=>⟨⟨by omega,by omega⟩,?_⟩⟩;obtain rfl:i=size:=by omega
 rw [j0F,Aa (by simp [numS])]
def q2r(tag:UInt8)(n:Int)(b:n=tag.toNat)(parts:List (List UInt8))(a:parts.length<=1125899906842624):PC Tryz.prog 110 [.raw (.int .u8 n),.isl (.slice .u8) parts] (.isl .u8 (elemS tag parts)):=by subst b;exact z9z tag parts a

def restN(v:Int):Nat->Int
 |0=>v
 |k+1=>(restN v k).fdiv 256
def firstN(n:Nat)(q:Nat->Bool):Option Nat:=(List.range n).find? q
variable {q:Nat->Bool}
theorem z3o{n:Nat}(b:i<n)(h:q i=true)(e:∀j,j<i->q j=false):firstN n q=some i:=by unfold firstN;rw [List.find?_range_eq_some];exact ⟨h,by simpa using b,λj a=>by rw [e j a];rfl⟩
def z3k{n:Nat}(h:firstN n q=some i):i<n/\q i=true/\∀j,j<i->q j=false:=by unfold firstN at h;rw [List.find?_range_eq_some] at h;exact ⟨by simpa using h.2.1,h.1,λj a=>by simpa using h.2.2 j a⟩
def oneB(v:Int)(k:Nat):Bool:=decide (-128<=restN v k) && decide (restN v k<=127)
def intSz(v:Int):Nat:=1+ (firstN 9 (oneB v)).getD 0
def intS(v:Int):List UInt8:=if -4611686018427387904<=v/\v<=4611686018427387904 then elemS 2 [numS v (intSz v)] else []
def fdiv256(r:Int):r.fdiv 256=r / 256:=CA r (by decide)
def rest8{v:Int}(h1: -4611686018427387904<=v)(h2:v<=4611686018427387904):oneB v 8=true:=by simp only [oneB,restN,fdiv256,Ak,decide_eq_true_eq];omega
theorem q2B(v:Int):PC Tryz.prog 39 [rI v] (.isl .u8 (intS v)):=by
 refine q0l rfl rfl ?_;refine rQ fi39 ?_<;>try with_reducible exact True.intro
 repeat' (first
  | (with_reducible refine And.intro ?_ ?_)
  | (with_reducible intro _))
 all_goals (skip)
 . unfold intS;rw [if_neg (by omega)]
 rotate_left
 . unfold intS;rw [if_neg (by omega)]
 rename_i h1 h2;have o:=rest8 (v:=v) (by omega) (by omega);refine q0p (ι:=Nat) (λk=>[(3,rI ((1+k:Nat):Int)),(4,rI (restN v k))]) (λ_=>[]) (λk=>9-k) (λk=>k<=8/\∀j,j<k->oneB v j=false) 0 ⟨by omega,λj p=>absurd p (by omega)⟩ rfl ?_ ?_
 . simp (maxSteps:=3000000) only [restN,go_sem,↓zA,↓reduceIte,↓reduceDIte] <;>try simp only [zB]
   rfl
 rintro k ⟨hk,a⟩;have h:IntKind.i64.wrap (((1+k:Nat):Int)+1)=((1+ (k+1):Nat):Int):=by rw [wrapi (by omega)];omega
 refine gy1 h ?_;have n:(2:Int) ^ min 8 64=256:=by decide
 refine ⟨λu=>⟨λs=> ?_,λs=> ?_⟩,λu=> ?_⟩
 . have b:oneB v k=false:=by simp [oneB];omega
   have m:k≠8:=λe=>by subst e;rw [o] at b;cases b
   refine ⟨k+1,⟨by omega,q1t a b⟩,by dsimp only;omega,rfl,?_⟩;simp (maxSteps:=3000000) only [restN,n,go_sem,↓zA,↓reduceIte,↓reduceDIte] <;>try simp only [zB]
 . have b:oneB v k=true:=by simp [oneB];omega
   have x:intSz v=1+k:=by unfold intSz;rw [z3o (by omega) b a];rfl
   refine cQ (z4v v (1+k) (by omega)) ?_;refine q0F 0 ?_;with_reducible refine sxE ?_
   refine cQ (q2r 2 2 rfl _ (by simp)) ?_;unfold intS;rw [if_pos (by omega),x]
 have b:oneB v k=false:=by simp [oneB];omega
 have m:k≠8:=λe=>by subst e;rw [o] at b;cases b
 refine ⟨k+1,⟨by omega,q1t a b⟩,by dsimp only;omega,rfl,?_⟩;simp (maxSteps:=3000000) only [restN,n,go_sem,↓zA,↓reduceIte,↓reduceDIte] <;>try simp only [zB]
theorem z0s(b:List UInt8):PC Tryz.prog 34 [.isl .u8 b] (.isl .u8 (elemS 4 [b])):=by
 refine q0l rfl rfl ?_;refine rQ fi34 ?_;refine q0F 0 ?_;with_reducible refine sxE ?_
 refine cQ (q2r 4 4 rfl _ (by simp)) ?_;trivial
def timeS(t:Int):List UInt8:=if 0<=t/\t<=1099511627776 then elemS 24 [numS t 6] else []
def j7Q(t:Int):PC Tryz.prog 40 [rI t] (.isl .u8 (timeS t)):=by
 refine q0l rfl rfl ?_;refine rQ fi40 ?_;refine ⟨λa=>⟨λb=> ?_,λb=> ?_⟩,λa=> ?_⟩
 . unfold timeS;rw [if_neg (by omega)]
 . refine q0b (z4v t 6 (by omega)) ?_;refine gQ ?_;refine q0F 0 ?_;with_reducible refine sxE ?_
   refine cQ (q2r 24 24 rfl _ (by simp)) ?_;unfold timeS;rw [if_pos (by omega)]
 unfold timeS;rw [if_neg (by omega)]
theorem q4c(l:List (List UInt8))(a:l.length<=1125899906842624):PC Tryz.prog 42 [.isl (.slice .u8) l] (.isl .u8 (elemS 48 l)):=by refine q0l rfl rfl ?_;refine rQ fi42 ?_;refine cQ (q2r 48 48 rfl _ a) ?_;trivial
def wrapS(tag n:Int)(b:List UInt8):List UInt8:=if 0<=n/\n<=30/\b≠ [] then elemS (byteOf (tag+n)) [b] else []
def z1U(tag n:Int)(b:List UInt8)(ht:0<=tag/\tag<=1000):PC Tryz.prog 109 [rI tag,rI n,.isl .u8 b] (.isl .u8 (wrapS tag n b)):=by
 refine q0l rfl rfl ?_;refine rQ fi109 ?_;refine ⟨λj=>⟨λm=>⟨λa=> ?_,λa=> ?_⟩,λm=> ?_⟩,λj=> ?_⟩
 . unfold wrapS;rw [if_neg (λh=>h.2.2 (By.1 (by omega)))]
 . refine q0F 0 ?_;with_reducible refine sxE ?_
   refine q0b (q2r (byteOf (tag+n)) _ ?_ _ (by simp)) ?_
   . rw [wrapi (by omega)];exact (q5G _).symm
   refine gQ ?_;unfold wrapS;rw [if_pos ⟨by omega,by omega,λe=>a (by rw [e];rfl)⟩]
 . unfold wrapS;rw [if_neg (by omega)]
 unfold wrapS;rw [if_neg (by omega)]
def q1I(n:Int)(b:List UInt8):PC Tryz.prog 33 [rI n,.isl .u8 b] (.isl .u8 (wrapS 160 n b)):=by refine q0l rfl rfl ?_;refine rQ fi33 ?_;refine cQ (z1U 160 n b (by omega)) ?_;trivial
theorem z1d(s:ByteArray)(hs:s.size<=140737488355328):PC Tryz.prog 108 [rS s] (.isl .u8 (elemS 27 [s.data.toList])):=by
 refine q0l rfl rfl ?_;refine q1Q fi108 (q0o mixed 8 _ ?_);simp (maxSteps:=3000000) only [ir108,go_sem,↓zA,↓reduceIte,↓reduceDIte] <;>try simp only [zB]
 have hl:(bytesOf s).length=s.size:=by simp [bytesOf]
 refine q1o 0 rfl rfl (by omega) ?_ ?_ ?_
 . with_reducible refine sxE ?_;trivial
 . with_reducible refine sxE ?_
   omega
 with_reducible refine sxE ?_
 refine gQ ?_;refine q0F 1 ?_;with_reducible refine sxE ?_
 rw [Aa (by omega)];refine cQ (q2r 27 27 rfl _ (by simp)) ?_;rfl
def fullAt(l:List (List UInt8))(j:Nat):Bool:=decide (l.getD j (Ty.slice .u8).dflt≠ [])
def wholeS(l:List (List UInt8)):List UInt8:=if allN l.length (fullAt l) then elemS 48 l else []
theorem z6j(l:List (List UInt8))(u:l.length<=1125899906842624):PC Tryz.prog 113 [.isl (.slice .u8) l] (.isl .u8 (wholeS l)):=by
 refine q0l rfl rfl ?_;refine rQ fi113 ?_;refine q1f (λi=>[(7,.raw (.int .i64 ((i:Nat):Int)))]) (l.length) (λj=>(fullAt l) j=true) (by first|decide|simp) (λi=>rfl) ?_ λi hi a=> ?_
 . (with_reducible refine sxE ?_<;>try exact True.intro)
   all_goals (try rfl)
 have o:=wsx i (by omega);refine gQ ?_;have m:i< (l.length)->(fullAt l) i=false->allN (l.length) (fullAt l)=false:=λb s=>q0C b s;have fin:¬i< (l.length)->allN (l.length) (fullAt l)=true:=λh=>q0E λj hj=>a j (by omega);try dsimp only at m fin a
 refine ⟨λb=>⟨⟨by omega,b⟩,λp=> ?_,λp=> ?_⟩,λn=>q0b (q4c l u) ?_⟩
 . have:fullAt l i=false:=by simp only [fullAt,decide_eq_false_iff_not,ne_eq,Classical.not_not];exact By.1 (by omega)
   unfold wholeS;rw [m b this];rfl
 . refine ⟨b,q1t a ?_,⟨_,rfl⟩,?_⟩
   . simp only [fullAt,decide_eq_true_eq];exact λe=>p (by rw [e];rfl)
   with_reducible refine sx1 o ?_;trivial
 refine gQ ?_;unfold wholeS;rw [fin n];rfl
def tagN(l:List (List UInt8))(i:Nat):List (List UInt8):=(List.range i).map λ(j:Nat)=>wrapS 160 j (l.getD j (Ty.slice .u8).dflt)
def z7n(l:List (List UInt8))(i:Nat):tagN l (i+1)=tagN l i++ [wrapS 160 i (l.getD i (Ty.slice .u8).dflt)]:=by simp [tagN,BI]
def fieldsS(l:List (List UInt8)):List UInt8:=wholeS (tagN l l.length)
theorem z4x(l:List (List UInt8))(hl:l.length<=1048576):PC Tryz.prog 112 [.isl (.slice .u8) l] (.isl .u8 (fieldsS l)):=by
 refine q0l rfl rfl ?_;refine rQ fi112 ?_;refine q5O 3 (.slice .u8) (λi=>tagN l i) (λi=>[(8,rI i)]) l.length (λ_=>True) rfl (by simp) (by simp [tagN]) rfl (λi=>rfl) ?_ λi hi _=> ?_
 . with_reducible refine sxE ?_;trivial
 have e:=wsx i (by omega);have hln:(tagN l i).length=i:=by simp [tagN]
 have a:=z7n l i;refine gQ ?_;refine ⟨λb=>⟨⟨by omega,b⟩,q0b (q1I _ _) ?_⟩,λhge=> ?_⟩
 . refine gQ ?_;refine ⟨⟨by omega,by omega⟩,q3g [_,_] [] b trivial (by rw [a];rfl) ?_⟩;with_reducible refine sx3 e a ?_;trivial
 obtain rfl:i=l.length:=by omega
 refine q0F 0 ?_;with_reducible refine sxE ?_
 refine ⟨by omega,?_⟩;rw [Aa (by omega)];refine ⟨Ac _,q0b (z6j (tagN l l.length) (by omega)) ?_⟩;refine gQ ?_;rfl
def keyS(k:Key):List UInt8:=fieldsS [intS k.1,intS k.2.1,elemS 4 [k.2.2]]
theorem j1N(p v:Int)(b:List UInt8):PC Tryz.prog 111 [rI p,rI v,.isl .u8 b] (.isl .u8 (keyS (p,v,b))):=by
 refine q0l rfl rfl ?_;refine rQ fi111 ?_;refine cQ (q2B p) ?_;refine cQ (q2B v) ?_;refine cQ (z0s b) ?_;refine q0F 0 ?_;with_reducible refine sxE ?_
 refine cQ (z4x _ (by simp)) ?_;rfl
def j6Z(k:Key):PC Tryz.prog 36 [.agg (KeyT.cells k)] (.isl .u8 (keyS k)):=by refine q0l rfl rfl ?_;refine rQ fi36 ?_;refine cQ (j1N _ _ _) ?_;trivial
def dec:Bool->List UInt8->List UInt8->List (List UInt8)
 |_,cur,[]=>[cur]
 |true,cur,c :: r=>dec false (cur++ [c]) r
 |false,cur,c :: r=>if c=92 then dec true cur r else if c=47 then cur :: dec false [] r else dec false (cur++ [c]) r
def rlmR:Bool->List UInt8->Bool
 |prev,[]=> !prev
 |prev,c :: cs=>if c==46 then !prev&& rlmR true cs else realmChar c&& rlmR false cs
def labL(l:List UInt8):Bool:=decide (0<l.length) && l.all realmChar
theorem z2f:∀ (cs a:List UInt8),(splitGo a cs).all labL=(a.all realmChar&& rlmR a.isEmpty cs)
 | [],a=>by cases a<;>simp [splitGo,labL,rlmR,Bool.and_comm]
 |c :: cs,a=>by
  rw [splitGo,rlmR];split
  . have:=z2f cs [];simp only [BE,this,Cu,List.isEmpty_nil,BU];cases a<;>simp [labL,Bool.and_comm,Bool.and_left_comm]
  have:=z2f cs (c :: a);grind
def rlmAt(prev:Bool)(l:List UInt8)(j:Nat):Bool:=
 if l.getD j 0=46 then decide (j+1<l.length) && (if j=0 then !prev else decide (l.getD (j-1) 0≠46)) else realmChar (l.getD j 0)
theorem z8m:∀ (l:List UInt8) (a:Bool),l≠ []->rlmR a l=allN l.length (rlmAt a l)
 | [],_,h=>absurd rfl h
 | [c],a,_=>by simp_all [rlmR,allN,rlmAt]
 |c :: d :: l,a,_=>by
  have ih:=z8m (d :: l) (c==46) (by simp);have hs:∀j,rlmAt a (c :: d :: l) (j+1)=rlmAt (c==46) (d :: l) j:=λj=>by unfold rlmAt;simp only [Bg,AB,Ca];grind
  have ha:allN (c :: d :: l).length (rlmAt a (c :: d :: l))=(rlmAt a (c :: d :: l) 0&& allN (d :: l).length (rlmAt (c==46) (d :: l))):=by
   rw [Bz,Ak,q2I,q2I];constructor
   . grind
   rintro ⟨h0,h⟩ j hj;cases j<;>simp_all
  grind [rlmR,rlmAt]
theorem z8z(s:ByteArray):realmB s=(szB s&& allN s.size (rlmAt true s.data.toList)):=by
 have a:(splitB s).all labelB=(splitDot s.data.toList).all labL:=by unfold splitB;rw [List.all_map];congr 1
 rw [realmB,a,splitDot,z2f,Cu,List.isEmpty_nil,BU];by_cases h:s.data.toList= []
 . have:s.size=0:=by have:=congrArg List.length h;simpa using this
   simp [szB,this]
 simp_all [z8m]
theorem q5X(p:Int):kindOf p=kind1\/kindOf p=kind2\/kindOf p=kindZ:=by
 unfold kindOf;split
 . exact .inl rfl
 split
 . exact .inr (.inl rfl)
 exact .inr (.inr rfl)
def j2v(k:Key):PC Tryz.prog 46 [.agg (KeyT.cells k)] (rB (vKey k)):=by
 refine q0s rfl rfl ?_;refine rQ fi46 ?_;refine q0b (j2X k) ?_;rcases q5X k.1 with h|h|h
 . rw [h];refine gQ ?_;trivial
 . rw [h];refine gQ ?_;trivial
 rw [h];refine gQ ?_;trivial
def j4E(l:List ByteArray)(hl:l.length<=8796093022208):PC Tryz.prog 176 [.isl .str l] (.isl .str l):=by refine q0l rfl rfl ?_;refine rQ fi176 ?_;intro b a;refine ⟨a,λh=>⟨⟨by omega,by omega⟩,⟨by omega,by omega⟩,Aa (by omega)⟩⟩
def q1C(l:List UInt8)(hl:l.length<=140737488355328):PC Tryz.prog 105 [.isl .u8 l] (.isl .u8 l):=by refine q0l rfl rfl ?_;refine rQ fi105 ?_;intro b a;refine ⟨a,λh=>⟨⟨by omega,by omega⟩,⟨by omega,by omega⟩,Aa (by omega)⟩⟩
def j5F(p:Prin)(a:p.1.length<=8796093022208):PC Tryz.prog 104 [.agg (PrinT.cells p)] (.agg (PrinT.cells p)):=by refine q0l rfl rfl ?_;refine rQ fi104 ?_;refine cQ (j4E _ a) ?_;trivial
def j4o(k:Key)(a:k.2.2.length<=140737488355328):PC Tryz.prog 106 [.agg (KeyT.cells k)] (.agg (KeyT.cells k)):=by refine q0l rfl rfl ?_;refine rQ fi106 ?_;refine cQ (q1C _ a) ?_;trivial
def strsN(l:List ByteArray)(i:Nat):List (List UInt8):=(l.take i).map λs=>elemS 27 [s.data.toList]
variable {l:List ByteArray}
def z5t(h:i<l.length):strsN l (i+1)=strsN l i++ [elemS 27 [(l.getD i Ty.str.dflt).data.toList]]:=by unfold strsN;rw [q1W (d:=Ty.str.dflt) h];simp
def z9a(h:i<=l.length):(strsN l i).length=i:=by simp [strsN];omega
def prinS(p:Prin):List UInt8:=elemS 48 [wrapS 160 0 (elemS 48 (strsN p.1 p.1.length)),wrapS 160 1 (elemS 27 [p.2.data.toList])]
theorem z8h(p:Prin)(e:PrinT.ok p):PC Tryz.prog 31 [.agg (PrinT.cells p)] (.tup [.isl .u8 (if vPrin p then prinS p else []),rI (if vPrin p then 0 else 2)]):=by
 obtain ⟨l,r⟩:=p;have m:prinS (l,r)=elemS 48 [wrapS 160 0 (elemS 48 (strsN l l.length)),wrapS 160 1 (elemS 27 [r.data.toList])]:=rfl;have j:∀ {i},i<l.length->(l.getD i Ty.str.dflt).size<=140737488355328:=λh=>e.1.2 _ (q3q h);have u:r.size<=140737488355328:=e.2;have s:=q6K (l,r) e;have o:vPrin (l,r)=true->l.length<=4:=λh=>by simp [vPrin] at h;omega
 clear e;generalize vPrin (l,r)=vb at*;generalize prinS (l,r)=ps at*;change List ByteArray at l;refine q0l rfl rfl ?_;refine rQ fi31 ?_;refine cQ s ?_;refine ⟨λh=> ?_,λh=> ?_⟩
 . rw [h];exact ⟨rfl,rfl⟩
 have hl4:l.length<=4:=o h;subst h;refine q5O 4 (.slice .u8) (strsN l) (λi=>[(13,rI i)]) l.length (λ_=>True) rfl (by simp) (by simp [strsN]) rfl (λi=>rfl) ?_ λi v _=> ?_
 . with_reducible refine sxE ?_;trivial
 have n:=wsx i (by omega);have hln:=z9a v;by_cases a:i<l.length
 . refine gQ ?_;refine ⟨λ_=>⟨⟨by omega,a⟩,q0b (z1d _ (j a)) ?_⟩,λh=>absurd a h⟩;refine gQ ?_;have b:=z5t a;refine ⟨⟨by omega,by omega⟩,q3g [_,_] [] a trivial (by rw [b];rfl) ?_⟩;with_reducible refine sx3 n b ?_;trivial
 obtain rfl:i=l.length:=by omega
 refine q1o 1 rfl rfl (by omega) ?_ ?_ ?_
 . with_reducible refine sxE ?_;trivial
 . with_reducible refine sxE ?_
   exact Ac _
 with_reducible refine sxE ?_
 rw [Aa (Ac _)];refine gQ ?_;refine ⟨λh=>absurd h a,λ_=>q0g (q4c _ (by omega)) ?_⟩;refine gQ ?_;refine cR (q1I _ _) ?_;refine cR (z1d r u) ?_;refine cR (q1I _ _) ?_;refine q1G 2 (by decide) ?_;with_reducible refine sxE ?_
 refine cR (q4c _ (by simp)) ?_;exact m.symm
variable {t:Ty}
def mapN(w:t.den->List UInt8)(l:List t.den)(i:Nat):List (List UInt8):=(l.take i).map w
variable {w:t.den->List UInt8}{l:List t.den}
def z8J(h:i<l.length):mapN w l (i+1)=mapN w l i++ [w (l.getD i t.dflt)]:=by unfold mapN;rw [q1W (d:=t.dflt) h];simp
def j0t(h:i<=l.length):(mapN w l i).length=i:=by simp [mapN];omega
def takeE(tag:UInt8)(r:List UInt8):Nat:=if r.length=0 then 4 else if r.getD 0 0≠tag then 6 else (meas r).2.2
def takeC(r:List UInt8):List UInt8:=(r.take (meas r).2.1).drop (meas r).1
def takeN(r:List UInt8):Nat:=(meas r).2.1
variable {r:List UInt8}
theorem z2o(h:(meas r).2.2=0):2<=(meas r).1/\(meas r).1<=(meas r).2.1/\(meas r).2.1<=r.length:=by
 have key:∀a n,(measE r a n).2.2=0->2<=a->a<=r.length->2<=(measE r a n).1/\(measE r a n).1<=(measE r a n).2.1/\(measE r a n).2.1<=r.length:=by
  intro a n j h2 h3;unfold measE at j⊢;split at j
  . cases j
  rename_i p;rw [if_neg p];simp only;omega
 unfold meas at h⊢;repeat' split at h
 all_goals first| (cases h;done) |skip
 . rename_i e b;rw [if_neg e,if_pos b];exact key _ _ h (by omega) (by omega)
 rename_i e b s m o;rw [if_neg e,if_neg b,if_neg s,if_neg m,if_neg o];exact key _ _ h (by omega) (by omega)
variable {t:UInt8}
def z3v(h:takeE t r=0):(meas r).2.2=0:=by
 unfold takeE at h;split at h
 . cases h
 split at h
 . cases h
 exact h
def q3f{t:UInt8}{r:List UInt8}(h:takeE t r=0):takeN r<=r.length:=(z2o (z3v h)).2.2
def z6l(h:takeE t r=0):2<=takeN r:=by have:=z2o (z3v h);unfold takeN;omega
def q7E(r:List UInt8):(takeC r).length<=r.length:=by unfold takeC;rw [Ah,An];omega

abbrev PR(α:Type):=List UInt8->Except Nat (α×Nat)
def rdP(tag:UInt8)(dec:List UInt8->Option α):PR α:=λr=>
 if takeE tag r=0 then match dec (takeC r) with
  |some v=>.ok (v,takeN r)
  |none=>.error 6
 else .error (takeE tag r)
def allP(p:PR α)(c:List UInt8):Except Nat α:=match p c with
 |.error e=>.error e
 |.ok (v,m)=>if m<c.length then .error 6 else .ok v
def inP(tag:UInt8)(p:PR α):PR α:=λr=>
 if takeE tag r=0 then match allP p (takeC r) with
  |.ok v=>.ok (v,takeN r)
  |.error e=>.error e
 else .error (takeE tag r)
def tagB(n:Nat):UInt8:=byteOf (160+n)
def nextB(n:Nat)(r:List UInt8):Bool:=decide (r.length≠0) && decide (r.getD 0 0=tagB n)
def mayP(n:Nat)(p:PR α):PR (Option α):=λr=>
 if nextB n r then match inP (tagB n) p r with
  |.ok (v,k)=>.ok (some v,k)
  |.error e=>.error e
 else .ok (none,0)
def needP(n:Nat)(p:PR α):PR α:=λr=>if nextB n r then inP (tagB n) p r else .error (if r.length=0 then 4 else 6)
def bindP{β:Type}(p:PR α)(f:α->PR β):PR β:=λr=>match p r with
 |.error e=>.error e
 |.ok (v,k)=>match f v (r.drop k) with
  |.error e=>.error e
  |.ok (u,m)=>.ok (u,k+m)
def retP(v:α):PR α:=λ_=>.ok (v,0)
def listP{α:Type}(p:PR α):Nat->PR (List α)
 |0,r=>if r.length=0 then .ok ([],0) else .error 6
 |n+1,r=>if r.length=0 then .ok ([],0) else match p r with
  |.error e=>.error e
  |.ok (v,k)=>match listP p n (r.drop k) with
   |.error e=>.error e
   |.ok (l,m)=>.ok (v :: l,k+m)

@[go_sem] abbrev rdr(b:List UInt8)(n:Nat):SObj:=.cells 147 [.isl .u8 b,rI n,.raw (.bool true)]
def z1N(b:List UInt8)(n:Nat)(a:n<=b.length):PE Tryz.prog 183 [.ptr 0 0] [rdr b n] (.ret (.isl .u8 (b.drop n))) [rdr b n]:=by refine q0a (Ac _) ?_;refine rQ fi183 ?_;refine ⟨⟨by omega,a,Ac _⟩,?_⟩;rw [Aw]
def q2C(b:List UInt8)(n:Nat)(a:n<=b.length):PE Tryz.prog 128 [.ptr 0 0] [rdr b n] (.ret (rI ((b.length-n:Nat):Int))) [rdr b n]:=by refine q0a (Ac _) ?_;refine rQ fi128 ?_;refine eQ [0] (z1N b n a) ?_;rw [Ah]
def z9y(b:List UInt8):PE Tryz.prog 125 [.isl .u8 b] [] (.ret (.ptr 0 0)) [rdr b 0]:=by refine q0a (Ai _) ?_;refine rQ fi125 ?_;trivial
def z3h(b:List UInt8):PE Tryz.prog 127 [.isl .u8 b] [] (.ret (.tup [.ptr 0 0,rB true])) [rdr b 0]:=by refine q0a (Ai _) ?_;refine rQ fi127 ?_;refine eQ [] (z9y b) ?_;trivial
theorem z1h(tag:UInt8)(b:List UInt8)(n:Nat)(v:n<=b.length)(hb:b.length<=1099511627776):
 PE Tryz.prog 182 [.ptr 0 0,.raw (.int .u8 tag.toNat)] [rdr b n] (.ret (.tup [.isl .u8 (if takeE tag (b.drop n)=0 then takeC (b.drop n) else []),rI (takeE tag (b.drop n))])) [rdr b (if takeE tag (b.drop n)=0 then n+takeN (b.drop n) else n)]:=by
 have s:=z1N b n v;have hlr:(b.drop n).length=b.length-n:=Ah;have p:=z7X (b.drop n) (by omega);have hok:= @q3f tag (b.drop n);generalize hR:b.drop n=r at*;have j:takeE tag r=if r.length=0 then 4 else if r.getD 0 0≠tag then 6 else (meas r).2.2:=rfl;refine q0a (Ac _) ?_;refine rQ fi182 ?_;refine eQ [0] (s) ?_;refine ⟨λh=> ?_,λh=> ?_⟩
 . rw [if_pos (by omega)] at j;rw [j];exact ⟨⟨rfl,rfl⟩,rfl⟩
 rw [if_neg (by omega)] at j;refine ⟨by omega,λm=> ?_,λm=> ?_⟩
 . rw [if_pos (λe=>m (by subst e;rfl))] at j;rw [j];exact ⟨⟨rfl,rfl⟩,rfl⟩
 have:r.getD 0 0=tag:=by
  apply BB.1;have:((r.getD 0 Ty.u8.dflt).toNat:Int)=tag.toNat:=m
  exact_mod_cast this
 rw [if_neg (by simpa using this)] at j;refine q0b p ?_;unfold measV;refine gQ ?_;refine ⟨λu=> ?_,λu=> ?_⟩
 . have a:¬(meas r).2.2=0:=by omega
   rw [j,if_neg a,if_neg a];exact ⟨⟨rfl,rfl⟩,rfl⟩
 have a:(meas r).2.2=0:=by omega
 have o:=z2o a;rw [j,if_pos a,if_pos a,wrapi (by omega),a];exact ⟨⟨by omega,o.2.1,Ac _,o.2.2⟩,⟨rfl,rfl⟩,congrArg (Value.int .i64) (by unfold takeN;omega)⟩
theorem q6s(g:Nat)(tag:UInt8)(b:List UInt8)(n:Nat)(s:n<=b.length)(o:b.length<=1099511627776)(v:SV)(right:Bool)(p:PC Tryz.prog g [.isl .u8 (takeC (b.drop n))] (.tup [v,rB right]))(j:∃u,(v= .raw u)\/∃xs,v= .isl .u8 xs):
 PE Tryz.prog 130 [.ptr 0 0,.raw (.int .u8 tag.toNat),.fn g [] []] [rdr b n] (.ret (if takeE tag (b.drop n)=0 then (if right then .tup [v,rI 0] else .tup [.raw (.int .i64 0),rI 6]) else .tup [.raw (.int .i64 0),rI (takeE tag (b.drop n))])) [rdr b (if takeE tag (b.drop n)=0/\right=true then n+takeN (b.drop n) else n)]:=by
 have m:=z1h tag b n s o;generalize takeE tag (b.drop n)=e at*;generalize takeC (b.drop n)=c at*;generalize takeN (b.drop n)=k at*;refine q0a (Ac _) ?_;refine rQ fi130 ?_;refine eQ [0] (m) ?_;refine ⟨λh=> ?_,λh=> ?_⟩
 . have a:¬e=0:=by omega
   simp only [if_neg a,a,false_and,if_false];with_reducible refine sxE ?_;trivial
 obtain rfl:e=0:=by omega
 simp only [true_and,if_true];refine q0b p ?_;obtain ⟨u,rfl| ⟨xs,rfl⟩⟩:=j
 . cases right
   . refine uQ 600 _ ?_;simp (maxSteps:=3000000) only [AS,if_false,go_sem,↓zA,↓reduceIte,↓reduceDIte] <;>try simp only [zB]
   refine gQ ?_;trivial
 cases right
 . refine uQ 600 _ ?_;simp (maxSteps:=3000000) only [AS,if_false,go_sem,↓zA,↓reduceIte,↓reduceDIte] <;>try simp only [zB]
 refine gQ ?_;trivial
theorem z3Q(g:Nat)(tag:UInt8)(b:List UInt8)(n:Nat)(s:n<=b.length)(o:b.length<=1099511627776)(v:SV)(right:Bool)(p:PC Tryz.prog g [.isl .u8 (takeC (b.drop n))] (.tup [v,rB right]))(j:∃u,(v= .raw u)\/∃xs,v= .isl .u8 xs):
 PE Tryz.prog 186 [.ptr 0 0,.raw (.int .u8 tag.toNat),.fn g [] []] [rdr b n] (.ret (if takeE tag (b.drop n)=0 then (if right then .tup [v,rI 0] else .tup [.raw (.string ⟨#[]⟩),rI 6]) else .tup [.raw (.string ⟨#[]⟩),rI (takeE tag (b.drop n))])) [rdr b (if takeE tag (b.drop n)=0/\right=true then n+takeN (b.drop n) else n)]:=by
 have m:=z1h tag b n s o;generalize takeE tag (b.drop n)=e at*;generalize takeC (b.drop n)=c at*;generalize takeN (b.drop n)=k at*;refine q0a (Ac _) ?_;refine rQ fi186 ?_;refine eQ [0] (m) ?_;refine ⟨λh=> ?_,λh=> ?_⟩
 . have a:¬e=0:=by omega
   simp only [if_neg a,a,false_and,if_false];with_reducible refine sxE ?_;trivial
 obtain rfl:e=0:=by omega
 simp only [true_and,if_true];refine q0b p ?_;obtain ⟨u,rfl| ⟨xs,rfl⟩⟩:=j
 . cases right
   . refine uQ 600 _ ?_;simp (maxSteps:=3000000) only [AS,if_false,go_sem,↓zA,↓reduceIte,↓reduceDIte] <;>try simp only [zB]
   refine gQ ?_;trivial
 cases right
 . refine uQ 600 _ ?_;simp (maxSteps:=3000000) only [AS,if_false,go_sem,↓zA,↓reduceIte,↓reduceDIte] <;>try simp only [zB]
 refine gQ ?_;trivial
theorem q8C(g:Nat)(tag:UInt8)(b:List UInt8)(n:Nat)(s:n<=b.length)(o:b.length<=1099511627776)(v:SV)(right:Bool)(p:PC Tryz.prog g [.isl .u8 (takeC (b.drop n))] (.tup [v,rB right]))(j:∃u,(v= .raw u)\/∃xs,v= .isl .u8 xs):
 PE Tryz.prog 142 [.ptr 0 0,.raw (.int .u8 tag.toNat),.fn g [] []] [rdr b n] (.ret (if takeE tag (b.drop n)=0 then (if right then .tup [v,rI 0] else .tup [.isl .u8 [],rI 6]) else .tup [.isl .u8 [],rI (takeE tag (b.drop n))])) [rdr b (if takeE tag (b.drop n)=0/\right=true then n+takeN (b.drop n) else n)]:=by
 have m:=z1h tag b n s o;generalize takeE tag (b.drop n)=e at*;generalize takeC (b.drop n)=c at*;generalize takeN (b.drop n)=k at*;refine q0a (Ac _) ?_;refine rQ fi142 ?_;refine eQ [0] (m) ?_;refine ⟨λh=> ?_,λh=> ?_⟩
 . have a:¬e=0:=by omega
   simp only [if_neg a,a,false_and,if_false];with_reducible refine sxE ?_;trivial
 obtain rfl:e=0:=by omega
 simp only [true_and,if_true];refine q0b p ?_;obtain ⟨u,rfl| ⟨xs,rfl⟩⟩:=j
 . cases right
   . refine uQ 600 _ ?_;simp (maxSteps:=3000000) only [AS,if_false,go_sem,↓zA,↓reduceIte,↓reduceDIte] <;>try simp only [zB]
   refine gQ ?_;trivial
 cases right
 . refine uQ 600 _ ?_;simp (maxSteps:=3000000) only [AS,if_false,go_sem,↓zA,↓reduceIte,↓reduceDIte] <;>try simp only [zB]
 refine gQ ?_;trivial
def inR(v lo hi:Int):Bool:=decide (lo<=v) && decide (v<=hi)
theorem q4P{xs ys:List UInt8}:strOf xs=strOf ys ↔ xs=ys:=by
 constructor
 . intro h;have:=congrArg (λs:ByteArray=>s.data.toList) h;simpa [strOf] using this
 rintro rfl;rfl
theorem j8q(a b:Key):PC Tryz.prog 88 [.agg (KeyT.cells a),.agg (KeyT.cells b)] (rB (decide (a=b))):=by
 obtain ⟨p,v,l⟩:=a;obtain ⟨p',v',l'⟩:=b;refine q0s rfl rfl ?_;refine rQ fi88 ?_<;>try with_reducible exact True.intro
 repeat' (first
  | (with_reducible refine And.intro ?_ ?_)
  | (with_reducible intro _))
 all_goals (simp_all [q4P])

def eqAt[DecidableEq α](l l':List α)(d:α)(j:Nat):Bool:=decide (l.getD j d=l'.getD j d)
def sameN[DecidableEq α](l a:List α)(d:α):(l=a) ↔ (l.length=a.length/\allN l.length (eqAt l a d)=true):=by
 constructor
 . rintro rfl;exact ⟨rfl,q0E λj _=>by simp [eqAt]⟩
 rintro ⟨m,h⟩;apply Aq m;intro j b e;have:=q2I.1 h j b;simp only [eqAt,decide_eq_true_eq,Ae,Af b,Af e,Bq] at this;exact this
theorem j8G(a b:Prin)(u:PrinT.ok a):PC Tryz.prog 87 [.agg (PrinT.cells a),.agg (PrinT.cells b)] (rB (decide (a=b))):=by
 obtain ⟨l,r⟩:=a;obtain ⟨m,r'⟩:=b;have hl:l.length<=1125899906842624:=u.1.1;refine q0s rfl rfl ?_;refine rQ fi87 ?_<;>try with_reducible exact True.intro
 repeat' (first
  | (with_reducible refine And.intro ?_ ?_)
  | (with_reducible intro _))
 all_goals (skip)
 . grind
 . refine q1f (λi=>[(5,.raw (.int .i64 ((i:Nat):Int)))]) (l.length) (λj=>(eqAt l m ByteArray.empty) j=true) (by first|decide|simp) (λi=>rfl) ?_ λi hi e=> ?_
   . (with_reducible refine sxE ?_<;>try exact True.intro)
     all_goals (try rfl)
   have o:=wsx i (by omega);refine gQ ?_;have p:i< (l.length)->(eqAt l m ByteArray.empty) i=false->allN (l.length) (eqAt l m ByteArray.empty)=false:=λn s=>q0C n s;have fin:¬i< (l.length)->allN (l.length) (eqAt l m ByteArray.empty)=true:=λh=>q0E λj hj=>e j (by omega);try dsimp only at p fin e
   have key:=sameN l m ByteArray.empty
   repeat' (first
    | (with_reducible refine And.intro ?_ ?_)
    | (with_reducible intro _))
   all_goals (first| (with_reducible (refine (id ?_:SoundI _ _ _))) | ((try simp only [Ty.dflt] at*);first|omega| (refine ⟨by omega,q1t e (by grind [eqAt]),⟨_,by first|rfl|exact List.append_assoc _ _ _| (simp only [List.append_assoc,Ay,Ar];rfl)⟩,?_⟩;simp only [o,go_sem,↓zA,↓reduceIte,↓reduceDIte] <;> (first|rfl| (grind [eqAt]))) | (refine ⟨_,rfl⟩) | (refine ⟨_,List.append_assoc _ _ _⟩) | (grind [eqAt])))
 grind

end Go.Proofs.YthbcodbcndiapaaGreatDoor