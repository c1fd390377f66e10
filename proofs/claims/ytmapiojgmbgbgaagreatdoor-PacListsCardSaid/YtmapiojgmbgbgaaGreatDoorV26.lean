/- A part of the proof: a symbolic executor over abstract values, and its soundness. -/
import Derived.Test.YtmapiojgmbgbgaaGreatDoorV25
set_option linter.all false
set_option maxHeartbeats 4000000
namespace Go.Sx
open Go

variable {P:Program} {AQ:Ex→List SV→List SObj→Prop} {k0:Nat} {k:List It} {t:List SV} {H:List SObj}
variable {g:FG} {Ds:List Nat}

theorem q8y{E:EnD}{D:Nat}{C:Cx}{ds:List Deferred}(h:(topG g (D :: Ds)).fin {E with base:=markD D :: E.base} C H ds):(topG g Ds).fin E C H ds:=by
 obtain ⟨Ds',e,⟨S,hc⟩,hnd,hok⟩:=h;exact ⟨Ds'++ [D],by rw [e];simp,⟨S,g.base (E:={E with base:=markD D :: E.base}) E.base hc⟩,by simpa using hnd,by simpa using hok⟩
theorem q9t{E:EnD}{D:Nat}(e:Exit)(a:Act)(w:World)(h: @conc (topG g (D :: Ds)) {E with base:=markD D :: E.base} AQ e a w): @conc (topG g Ds) E AQ e a w:=by
 cases e with
 |normal=>obtain ⟨C,t,H,h1,h2,h3⟩:=h;exact ⟨C,t,H,h1,h2,⟨h3.wd,h3.ext,q8y h3.defs,h3.tmps⟩⟩
 |ret=>obtain ⟨C,t,H,h1,h2,h3⟩:=h;exact ⟨C,t,H,h1,h2,⟨h3.wd,h3.ext,q8y h3.defs,h3.tmps⟩⟩
 |exit id=>obtain ⟨C,t,H,h1,h2,h3⟩:=h;exact ⟨C,t,H,h1,h2,⟨h3.wd,h3.ext,q8y h3.defs,h3.tmps⟩⟩
 |panic ch=>obtain ⟨C,t,H,s,v,h1,h2,h3,h4,h5,h6,h7,h8⟩:=h;exact ⟨C,t,H,s,v,h1,h2,h3,h4,h5,h6,q8y h7,h8⟩
 |goto l=>exact h
 |outgrown=>exact h

theorem q5G{w:World}{o:Obj}{b:Nat}(h:b<w.heap.size):(w.alloc o).heap[b]?=w.heap[b]?:=by
 show (w.heap.push o)[b]?=_;rw [Array.getElem?_push_lt h,Bx h]

def RfStop(g:FG)(P:Program)(AQ:Ex→List SV→List SObj→Prop)(k0:Nat)(k:List It)(t:List SV)(Ds:List Nat):Ex→List SObj→Prop
 |.exit id,H=>∃k',exitTo' id k=some k'∧ @Sound (topG g Ds) P AQ ⟨k0,k',t,H⟩
 |.ret,H=>AQ .ret t H
 |_,_=>False
theorem z8a{inf:Prop}{gop:Operand}{ps:Array Tmp}{assign body:Code}{f:FuncId}{fi ca:List SV}{N:Nat}{vw:Nat→Nat→List SV→List SObj→Prop}{Hs:Nat→List SObj→Prop}{X:Nat→Ex→List SObj→Prop}
 (hgop:evT t gop= .fn f fi ca)(hfi:SV.cleanL fi=true)(hca:SV.cleanL ca=true)(hit:IterI inf P f fi ca N vw)(hinf:inf→∀Hn,¬Hs N Hn)(hr:RfOk P g ps assign body t N vw Hs X)(h0:Hs 0 H)(hns:noStop k=true)
 (hdone:∀D Hn,Hs N Hn→ @Sound (topG g (D :: Ds)) P AQ ⟨k0,k,t,Hn⟩)(hstop:∀D i ex Hn,i<N→X i ex Hn→RfStop g P AQ k0 k t (D :: Ds) ex Hn):
 @Sound (topG g Ds) P AQ ⟨k0,.code (.rangeFunc gop ps assign body) :: k,t,H⟩:=by
 intro E r n C a hfit hd;obtain ⟨hn0,rfl⟩:E.C.n≤k0∧r=none:=hfit;simp only [wpT];obtain ⟨hdf,htab,⟨S0,hcore⟩,hnd,hok⟩:=hd.defs;have hgv:=q2E hd.tmps gop;rw [hgop,SV.den] at hgv;obtain ⟨v1,v2,hgv,d1,d2⟩:=hgv;refine wpIn_rangeFunc fun fn _=> ?_;obtain ⟨w1,hw1⟩:∃w1,w1=(C.w.alloc (.deferred (some []))).alloc (.loop (rfRec fn a.tmps ps assign body C.w.heap.size .ready none)):=⟨_,rfl⟩;have hsz:w1.heap.size=C.w.heap.size+2:=by rw [hw1];simp
 have hold:∀b,b<C.w.heap.size→w1.heap[b]?=C.w.heap[b]?:=fun b hb=>by rw [hw1,q5G (by simp;omega),q5G hb]
 have hD0:w1.heap[C.w.heap.size]?=some (.deferred (some [])):=by rw [hw1,q5G (by simp),World.alloc_heap_new]
 have hl0:w1.heap[C.w.heap.size+1]?=some (.loop (rfRec fn a.tmps ps assign body C.w.heap.size .ready none)):=by
  rw [hw1];have:=World.alloc_heap_new (C.w.alloc (.deferred (some []))) (.loop (rfRec fn a.tmps ps assign body C.w.heap.size .ready none));rwa [World.size_alloc] at this
 have henter:(Instr.enterLoop fn a.tmps ps assign body (Fw none).round).run P C.w= .ok (C.w.heap.size+1,[markD C.w.heap.size]) w1:=by rw [hw1];exact run_enterLoop_outer _ _ _ _ _
 have hvw:World.os w1=C.w.os∧w1.tape=C.w.tape∧w1.output=C.w.output:=by rw [hw1];exact ⟨rfl,rfl,rfl⟩
 clear hw1;obtain ⟨g1,g2⟩:=z6f (w':=w1) hd.wd (by omega) hold hvw.1 hvw.2.1 hvw.2.2
 have hDlt:∀D∈Ds,D<C.w.heap.size:=fun D hD=>(AA.1 (hok D hD).at_).1;have hnew:∀b,C.w.heap.size≤b→¬C.I b∧¬OwnB C H b:=fun b hb=>⟨fun h=>absurd (hd.wd.imm b h) (by omega),fun h=>absurd (hd.wd.own b h).2 (by omega)⟩
 have hEs:E.C.w.heap.size≤C.w.heap.size:=hd.ext.size;have hcal:Cal g E (C.w.heap.size :: Ds) t a.tmps.toList (C.w.heap.size+1) (.loop (rfRec fn a.tmps ps assign body C.w.heap.size .ready none)) {C with w:=w1} H S0:=by
  refine ⟨g1,hd.ext.trans g2,g.next g2 hcore,q0f g2.evo hd.tmps,fun D hD=> ?_,fun hm=> ?_,by omega,(hnew _ (by omega)).1,(hnew _ (by omega)).2,hl0,trivial,⟨htab.tab.next g2,htab.old⟩⟩
  · rcases Bz.1 hD with rfl|hD
    · exact ⟨hEs,(hnew _ (Ae _)).1,(hnew _ (Ae _)).2,hD0⟩
    exact (hok D hD).next g2
  rcases Bz.1 hm with h|h
  · omega
  have:=hDlt _ h;omega
 have hB:E.C.w.heap.size≤C.w.heap.size+2:=by omega
 have hJ:=j3j (g:=g) (E:=E) (Ds:=C.w.heap.size :: Ds) (t:=t) (tms:=a.tmps.toList) (l:=C.w.heap.size+1) (N:=N) (Hs:=Hs) (X:=X) (rec:=rfRec fn a.tmps ps assign body C.w.heap.size) hB (by omega) (fun D hD=>by
  rcases Bz.1 hD with rfl|hD
  · omega
  have:=hDlt _ hD;omega)
 have yg:=z4W (E:=E) (Ds:=C.w.heap.size :: Ds) (l:=C.w.heap.size+1) (fn:=fn) (us:=a.tmps) (D:=C.w.heap.size) hr hB;have hj0:rfJ g E (C.w.heap.size :: Ds) t a.tmps.toList (C.w.heap.size+1) N Hs X (rfRec fn a.tmps ps assign body C.w.heap.size) 0 (calS (C.w.heap.size :: Ds) (C.w.heap.size+1) {C with w:=w1} H S0) w1 C.I:=
  ⟨{C with w:=w1},S0,H,_,rfl,fun b=>⟨fun h=>⟨h,g1.imm b h⟩,And.left⟩,hcal,fun _=>Iff.rfl,.inl ⟨Al _,h0,rfl⟩⟩
 have hno:∀b,¬OwnB ⟨fun _=>none,1,C.I,w1⟩ [.mark 0] b:=fun b ⟨x,o,_,_,hb⟩=>by cases hb
 have hw2:Wd ⟨fun _=>none,1,C.I,w1⟩ [.mark 0]:=by
  refine ⟨rfl,fun x o ho=> ?_,fun b hb=>absurd hb (hno b),fun x x' o o' b _ _ _ _ h=>(by cases h),g1.imm⟩
  cases x with
  |zero=>simp at ho;subst ho;trivial
  |succ x=>simp at ho
 have hy:=YCore.mk (B:=C.w.heap.size+2) (E:=startE true (calS (C.w.heap.size :: Ds) (C.w.heap.size+1) {C with w:=w1} H S0) ⟨fun _=>none,1,C.I,w1⟩ [.mark 0]) (C:=⟨fun _=>none,1,C.I,w1⟩) (H:=[.mark 0]) (S:=calS (C.w.heap.size :: Ds) (C.w.heap.size+1) {C with w:=w1} H S0)
  Nat.one_pos (Ae _) (fun n hn=>by cases (q4y (by simp) hn).1) (by show _≤w1.heap.size;omega) (Ae _) (fun b hb=>absurd hb (hno b)) ⟨0,rfl,hj0⟩ (fun b hb=>⟨.inr ((q0U rfl).2 (.inr ⟨hb,(hJ.fp hj0 hb).2⟩)),hno b⟩)
 have hkeep:Keeps C.I C.I C.w w1:=g2.evo.I;have htab2:TabT ⟨fun _=>none,1,C.I,w1⟩ [.mark 0]:=htab.tab.keep g2.evo.I fun b _ hb _=>⟨by show b<w1.heap.size;omega,hno b,hold b hb⟩
 have hcall:=hit.2 (C.w.heap.size+1) (C.w.heap.size+2) _ hJ yg (fun hi S w I ⟨_,_,Hn,_,_,_,_,_,hat⟩=>by
  rcases hat with ⟨_,h1,_⟩ | ⟨i,_,_,h1,h2,_⟩
  · exact hinf hi Hn h1
  · omega) (startE true (calS (C.w.heap.size :: Ds) (C.w.heap.size+1) {C with w:=w1} H S0) ⟨fun _=>none,1,C.I,w1⟩ [.mark 0]) ⟨fun _=>none,1,C.I,w1⟩ (v1++ [Value.func (.yield (C.w.heap.size+1)) #[] #[]]++v2) hw2 ⟨⟨htab2,htab2.lt⟩,_,hy⟩
  (q0x.2 ⟨_,_,rfl,q0x.2 ⟨_,_,rfl,q1n (C:=C) hkeep hfi d1,q0c.2 ⟨_,[],rfl,by rw [SV.den],q0p.2 rfl⟩⟩,q1n (C:=C) hkeep hca d2⟩)
 refine ⟨C.w.heap.size+1,[markD C.w.heap.size],w1,{target:=.fn (.func f) v2.toArray,args:=v1.toArray++ #[.func (.yield (C.w.heap.size+1)) #[] #[]]},w1,f,(v1++ [Value.func (.yield (C.w.heap.size+1)) #[] #[]]++v2).toArray,w1,henter,?_,fun f' _=>q4r none f',?_,fun h=>(by cases h),q3O (hcall.mono ?_)⟩
 · simp [resolve,hgv,Deferred.ofValue];rfl
 · simp [invoke,q2U hit.1]
 rintro e w' ⟨o,H',C',⟨s,m,rfl,hm,hN⟩,rfl,hw',hx',v,rfl,hv⟩;obtain ⟨_,S',hy'⟩:= @Stp.inv (fgG (yFG hJ)) _ _ _ _ _ hx' ⟨⟨htab2,htab2.lt⟩,_,hy⟩;obtain ⟨m',hm',C3,S3,H3,o3,e3,hI3,hc3,hS3,hat⟩:=hy'.st;have hmm:m'=m:=by rw [hm] at hm';simpa using hm'.symm
 subst hmm;have hden:∀ (pe:Option Code), @Den (topG g (C.w.heap.size :: Ds)) {E with base:=markD C.w.heap.size :: E.base} (chgC C3 (C.w.heap.size+1) (.loop (rfRec fn a.tmps ps assign body C.w.heap.size .exhausted pe))) t H3 {a with defers:=[markD C.w.heap.size]++a.defers}:=fun pe=>by
  have hcal4:=hc3.chg (o':=.loop (rfRec fn a.tmps ps assign body C.w.heap.size .exhausted pe)) trivial;exact ⟨hcal4.wd,hcal4.ext,⟨by rw [hdf];rfl,hcal4.tab,⟨S3,g.base _ hcal4.core⟩,Bw.2 ⟨fun h=>absurd (hDlt _ h) (Ck _),hnd⟩,hcal4.marks⟩,hcal4.tmps⟩
 rcases hat with ⟨hmN,hHs,rfl⟩ | ⟨i,ex,c,rfl,hi,hX,hex,rfl⟩
 · have hmN:m'=N:=Nat.le_antisymm hmN hN;subst hmN;refine ⟨none,_,by rw [←e3];exact run_endLoop hc3.lat (by simp),?_⟩
   exact (q2A (fun e a w hh=>q9t e a w hh) k hns).1 _ _ (hdone C.w.heap.size H3 hHs {E with base:=markD C.w.heap.size :: E.base} none n _ _ ⟨hn0,rfl⟩ (hden none))
 have hs:=hstop C.w.heap.size i ex H3 hi hX;refine ⟨some c,_,by rw [←e3];exact run_endLoop hc3.lat (by simp),?_⟩
 cases ex with
 |normal=>exact hs.elim
 |pan s=>exact hs.elim
 |ret=>
  cases hex;exact wpIn_ret (q9t .ret _ _ ⟨_,t,H3,hs,rfl, @Den.fin (topG g (C.w.heap.size :: Ds)) _ _ _ _ _ (hden (some .ret))⟩)
 |exit id=>
  cases hex;obtain ⟨k',hk',hs⟩:=hs;have h9:=hs {E with base:=markD C.w.heap.size :: E.base} none n _ _ ⟨hn0,rfl⟩ (hden (some (.exit id)))
  have h8:= @q3n (topG g (C.w.heap.size :: Ds)) P (Fw none) n _ _ id _ _ k' k hk' h9;exact wpIn_exit ((q2A (G:=topG g Ds) (fun e a w hh=>q9t e a w hh) k hns).2 id _ _ h8)
end Go.Sx
namespace Go.Sx
open Go

variable {P:Program} {AQ:Ex→List SV→List SObj→Prop} {k0:Nat} {k:List IT} {t:List SV} {H:List SObj}
variable {g:FG} {Ds:List Nat}

theorem z5G:(#[]:Array Value).size=0:=rfl
attribute [go_sem] z5G
def RfStopI(g:FG)(P:Program)(AQ:Ex→List SV→List SObj→Prop)(k0:Nat)(k:List IT)(t:List SV)(Ds:List Nat):Ex→List SObj→Prop
 |.exit id,H=>∃k',exitI id k=some k'∧ @SoundI (topG g Ds) P AQ ⟨k0,k',t,H⟩
 |.ret,H=>AQ .ret t H
 |_,_=>False
theorem j0d{inf:Prop}{gop:Operand}{ps:Array Tmp}{asg body:IC}{f:FuncId}{fi ca:List SV}{N:Nat}{vw:Nat→Nat→List SV→List SObj→Prop}(Hs:Nat→List SObj→Prop)(X:Nat→Ex→List SObj→Prop)
 (hgop:evT t gop= .fn f fi ca)(hfi:SV.cleanL fi=true)(hca:SV.cleanL ca=true)(hit:IterI inf P f fi ca N vw)(hinf:inf→∀Hn,¬Hs N Hn)(hlen:∀i n args' new,vw i n args' new→args'.length=ps.size)(h0:Hs 0 H)(hns:noStopI k=true)
 (hround:∀i Hi args' new,i<N→Hs i Hi→vw i Hi.length args' new→∀L1 L2, @SoundI (pinG g L1) P (fun _ _ _=>False)
  ⟨(Hi++new).length,[.ic asg,.stop fun t' H'=> @SoundI (pinG g L2) P (RQ Hs X i) ⟨H'.length,[.ic body],t',H'⟩],putL ps.toList args' t,Hi++new⟩)
 (hdone:∀D Hn,Hs N Hn→ @SoundI (topG g (D :: Ds)) P AQ ⟨k0,k,t,Hn⟩)(hstop:∀D i ex Hn,i<N→X i ex Hn→RfStopI g P AQ k0 k t (D :: Ds) ex Hn):
 @SoundI (topG g Ds) P AQ ⟨k0,.ic (.rf gop ps asg body) :: k,t,H⟩:= @q0d (topG g Ds) P AQ k0 t H _ (fun td' hr=>by
 obtain ⟨c',r,rfl,hc,hr⟩:=hr;obtain ⟨a,b,rfl,ha,hb⟩:=q0N hc;refine z8a (Hs:=Hs) (X:=X) hgop hfi hca hit hinf ⟨hlen,fun i Hi args' new hi hH hv L1 L2=>⟨_,fun t' H' hΦ=> ?_, @q0e (pinG g L1) _ _ _ _ _ _ _ (hround i Hi args' new hi hH hv L1 L2) ⟨a,_,rfl,ha,[],rfl,rfl⟩⟩⟩ h0 (q1W hr hns) (fun D Hn h=> @q0e (topG g (D :: Ds)) _ _ _ _ _ _ _ (hdone D Hn h) hr) fun D i ex Hn hi hX=> ?_
 · exact @q0e (pinG g L2) _ _ _ _ _ _ _ hΦ ⟨b,[],rfl,hb,rfl⟩
 have h:=hstop D i ex Hn hi hX;cases ex with
 |normal=>exact h.elim
 |pan s=>exact h.elim
 |ret=>exact h
 |exit id=>
  obtain ⟨k',hk',hs⟩:=h;obtain ⟨r',hr',hrel⟩:=q2M hr hk'
  exact ⟨r',hr', @q0e (topG g (D :: Ds)) _ _ _ _ _ _ _ hs hrel⟩) rfl
theorem j4m{gop:Operand}{ps:Array Tmp}{asg body:IC}{f:FuncId}{fi ca:List SV}{N:Nat}{vw:Nat→Nat→List SV→List SObj→Prop}(Hs:Nat→List SObj→Prop)(X:Nat→Ex→List SObj→Prop)
 (hgop:evT t gop= .fn f fi ca)(hfi:SV.cleanL fi=true)(hca:SV.cleanL ca=true)(hit:Iter P f fi ca N vw)(hlen:∀i n args' new,vw i n args' new→args'.length=ps.size)(h0:Hs 0 H)(hns:noStopI k=true)
 (hround:∀i Hi args' new,i<N→Hs i Hi→vw i Hi.length args' new→∀L1 L2, @SoundI (pinG g L1) P (fun _ _ _=>False)
  ⟨(Hi++new).length,[.ic asg,.stop fun t' H'=> @SoundI (pinG g L2) P (RQ Hs X i) ⟨H'.length,[.ic body],t',H'⟩],putL ps.toList args' t,Hi++new⟩)
 (hdone:∀D Hn,Hs N Hn→ @SoundI (topG g (D :: Ds)) P AQ ⟨k0,k,t,Hn⟩)(hstop:∀D i ex Hn,i<N→X i ex Hn→RfStopI g P AQ k0 k t (D :: Ds) ex Hn):
 @SoundI (topG g Ds) P AQ ⟨k0,.ic (.rf gop ps asg body) :: k,t,H⟩:=
 j0d (inf:=False) Hs X hgop hfi hca hit.toI (fun h=>h.elim) hlen h0 hns hround hdone hstop
theorem z9C{B N:Nat}{J:Nat→(Nat→Prop)→World→(Nat→Prop)→Prop}{T:List SObj}{c:IC}(hJ:FJ B J)(hno:∀S w I,¬J N S w I): @SoundI (topG (yFG hJ) Ds) P AQ ⟨k0,.ic c :: k,t,.mark N :: T⟩:= @q0d (topG (yFG hJ) Ds) P AQ k0 t _ _ (fun td' _ E r n C a h0 hd=>by
 obtain ⟨_,_,⟨S0,hc⟩,_⟩:=hd.defs;obtain ⟨m,h1,h2⟩:=hc.st;have e:m=N:=by simpa using h1.symm
 exact (hno _ _ _ (e▸h2)).elim) rfl

theorem q4R{l B N:Nat}{J:Nat→(Nat→Prop)→World→(Nat→Prop)→Prop}{vw:Nat→Nat→List SV→List SObj→Prop}{i:Nat}{T:List SObj}(T':List SObj){args:List SV}{d:Option Tmp}
 (hJ:FJ B J)(yg:YG P l B N J vw)(hi:i<N)(hh:∀n,∃args' new,vw i n args' new∧Hand n (.mark i :: T) (.mark i :: T') args args' new)
 (hk:∀b:Bool, @SoundI (topG (yFG hJ) Ds) P AQ ⟨k0,k,putT t d (.raw (.bool b)),.mark (if b then i+1 else N+1+i) :: T'⟩): @YldI (topG (yFG hJ) Ds) P AQ l args d ⟨k0,k,t,.mark i :: T⟩:=z8J hJ yg hi hh hk
def RoundM(T:List SObj)(f:Nat→Nat)(S:Nat→List SV)(n:Nat)(p:Nat→Prop)(i:Nat):List SV→List SObj→Prop:=
 fun t' H'=>i<n∧p (i+1)∧(∃G,H'= .mark (f (i+1)) :: T++G)∧leM t' (S (i+1))
theorem z2b[Ghost]{P:Program}{k:List It}(c:Code)(T:List SObj)(f:Nat→Nat)(S:Nat→List SV)(n:Nat)(p:Nat→Prop)(h₀:p 0)(hs:leM t (S 0))(hk:k0≤T.length+1)(hb:SV.belL (T.length+1) t=true→∀i,SV.belL (T.length+1) (S i)=true)
 (round:∀i,i≤n→p i→Sound P AQ ⟨k0,.code c :: .stop (RoundM T f S n p i) :: k,S i,.mark (f i) :: T⟩):Sound P AQ ⟨k0,.code (.loop c) :: k,t,.mark (f 0) :: T⟩:=fun E r m C a h0 hd=>by
 have hbt:∀i,SV.belL (T.length+1) (S i)=true:=hb (by have:=q1A hd.tmps;rwa [hd.wd.n] at this)
 have hbh:belH (T.length+1) T=true:=q5H fun h o ho=>by have:=q5r (hd.wd.obj (h+1) o (by simpa using ho));rwa [hd.wd.n] at this
 simp only [wpT];refine q1a (fun m a w=>∃i,i≤n∧p i∧n-i=m∧∃C,C.w=w∧Den E C (S i) (.mark (f i) :: T) a) n ⟨0,Al _,h₀,rfl,C,rfl,hd.wd,hd.ext,hd.defs,q2K (q3b hs) hd.tmps⟩ ?_;rintro m' a w ⟨i,hi,hp,rfl,C,rfl,hd⟩;have h1:=round i hi hp E r m C a h0 hd;simp only [wpT] at h1;refine wpIn_mono h1 fun e a w hq=> ?_;cases e with
 |normal=>
  obtain ⟨C',t',H',⟨hlt,hp',⟨G,rfl⟩,hS⟩,rfl,hd'⟩:=hq;refine ⟨n- (i+1),by omega,i+1,hlt,hp',rfl,C'.ren (fun h=>h) (T.length+1),rfl,?_⟩
  exact q8c (H':=.mark (f (i+1)) :: T) h0.1 hd' (q8M hS) (hbt _) (fun h o ho _=>by rw [q3F,Ag (Aa.1 ho).1];exact ho) (by simp only [belH,Aj];exact ⟨rfl,hbh⟩) (fun _ _ _ _ _ _ _ _ e=>e) (fun _ _=>rfl) hk (fun _ hp hn=>by rw [Ag (by simp)] at hn;exact hn)
 |exit id=>simpa only [Exit.then,exitT] using hq
 |_=>exact hq
theorem z6t[Ghost]{c:IC}(T:List SObj)(f:Nat→Nat)(upd:Nat→List (Nat×SV))(n:Nat)(p:Nat→Prop)(h₀:p 0)(hH:H= .mark (f 0) :: T)(hk:k0≤T.length+1)(hu:∀i,((upd i).all fun x=>x.2.bel (T.length+1))=true)(hs:leM t (setMany (maskT c.wr t) (upd 0)))
 (round:∀i,i≤n→p i→SoundI P AQ ⟨k0,.ic c :: .stop (RoundM T f (fun i=>setMany (maskT c.wr t) (upd i)) n p i) :: k,setMany (maskT c.wr t) (upd i),.mark (f i) :: T⟩):
 SoundI P AQ ⟨k0,.ic (.loop c) :: k,t,H⟩:=q0d (fun td' hr=>by
 subst hH;obtain ⟨c',r,rfl,hc,hr⟩:=hr;obtain ⟨x,rfl,hx⟩:=q0N hc
 exact z2b x T f _ n _ h₀ hs hk (fun hb i=>q2N _ (hu i) (q2O _ hb)) (fun i hi hp=>q0e (round i hi hp) ⟨x,_,rfl,hx,r,rfl,hr⟩)) rfl

end Go.Sx
namespace Go.Proofs.YtmapiojgmbgbgaaGreatDoor
open Go Go.Sx Go.Proofs
set_option maxRecDepth 100000
set_option maxHeartbeats 40000000
def padT(b:List UInt8)(total:Nat):List UInt8:=padZ b (padN b.length)++lnB8 (8*total) 8
theorem q9C(b:List UInt8)(total:Nat):(padT b total).length=64*blksN b:=by
 unfold padT blksN;rw [Af,z8W,z8B];unfold padN;omega
def blkAt(p:List UInt8)(i:Nat):List UInt8:=(p.take (64*i+64)).drop (64*i)
theorem q9S{p:List UInt8}{N i:Nat}(hp:p.length=64*N)(hi:i<N):(blkAt p i).length=64:=by
 unfold blkAt;rw [Ak,Aw];omega
def vwB(b:List UInt8)(total:Nat):Nat→Nat→List SV→List SObj→Prop:=fun i _ args' new=>args'= [.isl .u8 (blkAt (padT b total) i)]∧new= []
theorem j0f(b:List UInt8)(total:Nat)(hb:b.length≤70368744177664):PC Tryz.prog 281 [.isl .u8 b,rI total] (.fn 297 [] [.iptr (.slice .u8) b 0,.iptr (.int .i64) total 0]):=by
 refine q0w rfl rfl ?_;refine q4s fi281 ?_;refine uQ 4 _ ?_;with_reducible refine sxE ?_
 refine q3L 2 0 (ty:=.slice .u8) (x:=b) rfl ⟨by omega,fun _ _=>trivial⟩ rfl rfl ?_
 refine q3L 3 1 (ty:=.int .i64) (x:=(total:Int)) rfl trivial rfl rfl ?_;refine gQ ?_;trivial
def endP(r:List UInt8)(total S i:Nat):List UInt8:=(List.range S).map fun j=>if j<r.length then r.getD j 0 else if j=r.length then 128 else if S-i≤j then UInt8.ofNat (8*total / 2^ (8* (S-1-j))%256) else 0
theorem q4S(r:List UInt8)(total S i:Nat):(endP r total S i).length=S:=by simp [endP]
theorem z0G(r:List UInt8)(total:Nat){S:Nat}(h:r.length<S):(splice (List.replicate S 0) 0 r).set r.length 128=endP r total S 0:=by
 apply AP
 · simp [endP,splice];omega
 intro j h1 h2;rw [BI];simp only [endP,AZ,AU];rw [q4S] at h2;split
 · subst_vars;rw [if_neg (by omega),if_pos rfl]
 rename_i hne;simp only [splice,BL,As,Ac];by_cases hj:j<r.length
 · rw [if_pos hj,Bh hj,Ad,Ab hj];rfl
 rw [if_neg hj,if_neg (by omega),if_neg (by omega),BN (by omega)]
 simp
theorem z2U(r:List UInt8)(total:Nat){S i:Nat}(h:r.length+9≤S)(hi:i<8):(endP r total S i).set (S-1-i) (UInt8.ofNat (8*total / 2^ (8*i)%256))=endP r total S (i+1):=by
 apply AP
 · simp [endP]
 intro j h1 h2;rw [q4S] at h2;rw [BI];simp only [endP,AZ,AU];split
 · subst_vars
   rw [if_neg (by omega),if_neg (by omega),if_pos (by omega)]
   rw [show S-1- (S-1-i)=i by omega]
 rename_i hne;by_cases h1:j<r.length
 · rw [if_pos h1,if_pos h1]
 rw [if_neg h1,if_neg h1];by_cases h2:j=r.length
 · rw [if_pos h2,if_pos h2]
 rw [if_neg h2,if_neg h2];by_cases h3:S-i≤j
 · rw [if_pos h3,if_pos (by omega)]
 rw [if_neg h3,if_neg (by omega)]
theorem z8e(b:List UInt8)(total:Nat){S:Nat}(hS:S=64* (blksN b-b.length / 64)):(padT b total).drop (64* (b.length / 64))=endP (b.drop (64* (b.length / 64))) total S 8:=by
 have hl:=q9C b total;have hb:blksN b=(b.length+72) / 64:=rfl;apply AP
 · rw [Ak,hl,q4S];omega
 intro j h1 h2;rw [Ak,hl] at h1;have hd:(b.drop (64* (b.length / 64))).length=b.length%64:=by rw [Ak];omega
 have hn:padN b.length=(119-b.length%64)%64:=rfl;rw [List.getElem_drop];simp only [endP,AZ,AU,hd];unfold padT padZ;by_cases c1:j<b.length%64
 · rw [if_pos c1,Bh (by simp;omega),Bh (by simp;omega),Bh (by omega),Ad,AF,Ab (by omega)];rfl
 rw [if_neg c1];by_cases c2:j=b.length%64
 · rw [if_pos c2,Bh (by simp;omega),Bh (by simp;omega),BN (by omega)]
   have:64* (b.length / 64)+j-b.length=0:=by omega
   simp [this]
 rw [if_neg c2];by_cases c3:S-8≤j
 · have hpl:(b++ [128]++List.replicate (padN b.length) (0:UInt8)).length=b.length+1+padN b.length:=by simp;omega
   rw [if_pos c3,BN (by rw [hpl];omega)]
   simp only [lnB8,AZ,AU,hpl];refine congrArg (fun k=>UInt8.ofNat (8*total / 2^ (8*k)%256)) ?_;omega
 rw [if_neg c3,Bh (by simp;omega),BN (by simp;omega)]
 simp
theorem u64i{x:Int}(h:0≤x∧x<18446744073709551616):IntKind.u64.wrap x=x:=by
 have e:IntKind.u64.wrap x=x%18446744073709551616:=rfl;rw [e];omega
theorem byteQ(n i:Nat)(hi:i≤7):UInt8.ofNat (IntKind.u8.wrap ((n:Int).fdiv (2^ min (8*i) 64))).toNat=UInt8.ofNat (n / 2^ (8*i)%256):=by
 have e:((n:Int).fdiv (2^ (8*i)))=((n / 2^ (8*i):Nat):Int):=by
  rw [A6 _ (by exact_mod_cast Al (2^ (8*i)))]
  simp
 rw [Bf (by omega),e]
 generalize n / 2^ (8*i)=m;rw [u8wrapR];congr 1
theorem q6z(p:List UInt8)(f k:Nat):blkAt p (f+k)=((p.drop (64*f)).drop (64*k)).take 64:=by
 unfold blkAt;rw [Bp,BD,CN];congr 1;omega
theorem z7H(b:List UInt8)(total:Nat){i:Nat}(hi:i<b.length / 64):List.take 64 (b.drop (64*i))=blkAt (padT b total) i:=by
 unfold blkAt padT padZ;rw [A8 (by simp;omega),A8 (by simp;omega),A8 (by omega),BD]
 congr 1;omega
theorem z0q(b:List UInt8)(total:Nat)(hb:b.length≤70368744177664)(ht:total≤70368744177664):Iter Tryz.prog 297 [] [.iptr (.slice .u8) b 0,.iptr (.int .i64) (total:Int) 0] (blksN b) (vwB b total):=by
 refine ⟨by kernel_rfl,fun l B J hJ yg=> ?_⟩
 refine (q6H (yFG hJ) fi297 ?_).2
 letI:Ghost:=topG (yFG hJ) []
 refine gQ ?_;refine z6t [] (fun i=>i) (fun i=>[(4,.isl .u8 (b.drop (64*i)))]) (b.length / 64) (fun _=>True) trivial rfl (by simp) (by simp [SV.bel]) ?_ fun i hi _=> ?_
 · with_reducible refine sxE ?_;trivial
 have hN:blksN b=(b.length+72) / 64:=rfl;by_cases hlt:i<b.length / 64
 · refine uQ 600 _ ?_;simp (maxSteps:=3000000) only [Ak,go_sem,↓zA,↓reduceIte,↓reduceDIte] <;>try simp only [zB]
   refine ⟨fun _=>⟨by omega,?_⟩,fun h=>absurd h (by omega)⟩
   refine q4R [] hJ yg (by omega) (fun n=>⟨_,_,⟨by rw [z7H b total hlt],rfl⟩,q2V rfl⟩) fun c=> ?_
   cases c
   · refine gQ ?_;exact ⟨_,_,rfl,rfl,by omega⟩
   refine uQ 600 _ ?_;simp (maxSteps:=3000000) only [Ak,go_sem,↓zA,↓reduceIte,↓reduceDIte] <;>try simp only [zB]
   have he:List.drop 64 (List.take (b.length-64*i) (List.drop (64*i) b))=List.drop (64* (i+1)) b:=by
    rw [Ah (by rw [Ak];omega),Bp];congr 1
   refine ⟨⟨by omega,by omega⟩,hlt,trivial,⟨[],rfl⟩,?_⟩
   rw [he];with_reducible refine sxE ?_;trivial
 obtain rfl:i=b.length / 64:=by omega
 refine uQ 600 _ ?_;simp (maxSteps:=3000000) only [Ak,go_sem,↓zA,↓reduceIte,↓reduceDIte] <;>try simp only [zB]
 have hrl:(b.drop (64* (b.length / 64))).length=b.length%64:=by rw [Ak];omega
 have hea:=z8e b total (S:=64* (blksN b-b.length / 64)) rfl;generalize hr:b.drop (64* (b.length / 64))=r at*;have hl2:b.length-64* (b.length / 64)=b.length%64:=by omega
 rw [hl2];refine ⟨fun h=>absurd h (by omega),fun _=>⟨fun hg=> ?_,fun hg=> ?_⟩⟩
 · have hw9:IntKind.i64.wrap (((b.length%64:Nat):Int)+9)=((b.length%64:Nat):Int)+9:=by rw [wrapi (by omega)]
   have hS:64* (blksN b-b.length / 64)=128:=by omega
   rw [hS] at hea;have htk:List.take (min (b.length%64) 128) r=r:=Ah (by omega)
   have hz:=z0G r total (S:=128) (by omega)
   rw [htk];repeat (with_reducible refine And.intro (by first|omega|exact ⟨by omega,by omega⟩ |exact ⟨by simp;omega,by decide⟩) ?_)
   refine q0y (ι:=Nat) (fun i=>[(32,rI i)]) (fun i=>[.mark (b.length / 64),.row .u8 (endP r total 128 i)]) (fun i=>8-i) (fun i=>i≤8) 0 (Al _) ?_ ?_ ?_
   · rw [←hz];simp only [splice,BL,As,hrl,Ac];rfl
   · with_reducible refine sxE ?_;trivial
   intro i hi;have hel:=q4S r total 128 i;have hwr:=wsx i (by omega)
   by_cases h8:i<8
   · have w0:IntKind.i64.wrap (128-1)=127:=by rw [wrapi (by omega)];rfl
     have w1:IntKind.i64.wrap (127- (i:Int))=((127-i:Nat):Int):=by rw [wrapi (by omega)];omega
     have w2:IntKind.u64.wrap (total:Int)=total:=u64i (by omega)
     have w3:IntKind.u64.wrap ((total:Int)*8)=((8*total:Nat):Int):=by rw [u64i (by omega)];omega
     have w4:IntKind.i64.wrap (8* (i:Int))=((8*i:Nat):Int):=by rw [wrapi (by omega)];omega
     refine gy8 w0 w1 w2 w3 w4 hel Ac Ac ?_;refine ⟨fun _=> ?_,fun h=>absurd h (by omega)⟩
     repeat (with_reducible refine And.intro (by first|omega|exact ⟨by omega,by omega⟩ |exact ⟨by omega,q2D _⟩) ?_)
     refine ⟨i+1,h8,by dsimp only;omega,?_,?_⟩
     · dsimp only;rw [byteQ _ _ (by omega),←z2U r total (by omega) h8]
     with_reducible refine sx1 hwr ?_;trivial
   obtain rfl:i=8:=by omega
   refine uQ 6 _ ?_;with_reducible refine sy2 hel Ac ?_
   refine ⟨fun h=>absurd h (by omega),fun _=> ?_⟩
   refine uQ 1 _ ?_;with_reducible refine sxE ?_
   refine q1i 1 rfl rfl (by rw [hel];decide) ?_ ?_ ?_
   · with_reducible refine sxE ?_;trivial
   · with_reducible refine sxE ?_
     omega
   with_reducible refine sxE ?_
   have hck:List.take 128 (endP r total 128 8)=endP r total 128 8:=Ah (by omega)
   rw [hck];refine gy2 hel Ac ?_;refine ⟨by omega,?_⟩
   refine q4R [.dead] hJ yg (i:=b.length / 64) (by omega) (fun n=>⟨_,_,⟨by rw [show blkAt (padT b total) (b.length / 64)=_ from q6z (padT b total) (b.length / 64) 0,hea,Au],rfl⟩,q2V rfl⟩) fun c=> ?_
   cases c
   · refine gQ ?_;exact ⟨_,_,rfl,rfl,by omega⟩
   refine uQ 600 _ ?_;simp (maxSteps:=3000000) only [hel,Ac,go_sem,↓zA,↓reduceIte,↓reduceDIte] <;>try simp only [zB]
   repeat (with_reducible refine And.intro (by first|omega|exact ⟨by omega,by omega⟩) ?_)
   refine q4R [.dead] hJ yg (i:=b.length / 64+1) (by omega) (fun n=>⟨_,_,⟨by rw [q6z _ _ 1,hea,hck,Ah (by rw [Ak];omega)],rfl⟩,q2V rfl⟩) fun c=> ?_
   cases c
   · refine gQ ?_;exact ⟨_,_,rfl,rfl,by omega⟩
   refine gQ ?_;exact ⟨_,_,rfl,rfl,by omega⟩
 have hw9:IntKind.i64.wrap (((b.length%64:Nat):Int)+9)=((b.length%64:Nat):Int)+9:=by rw [wrapi (by omega)]
 have hS:64* (blksN b-b.length / 64)=64:=by omega
 rw [hS] at hea;have htk:List.take (min (b.length%64) 64) r=r:=Ah (by omega)
 have hz:=z0G r total (S:=64) (by omega)
 rw [htk];repeat (with_reducible refine And.intro (by first|omega|exact ⟨by omega,by omega⟩ |exact ⟨by simp;omega,by decide⟩) ?_)
 refine q0y (ι:=Nat) (fun i=>[(32,rI i)]) (fun i=>[.mark (b.length / 64),.row .u8 (endP r total 64 i)]) (fun i=>8-i) (fun i=>i≤8) 0 (Al _) ?_ ?_ ?_
 · rw [←hz];simp only [splice,BL,As,hrl,Ac];rfl
 · with_reducible refine sxE ?_;trivial
 intro i hi;have hel:=q4S r total 64 i;have hwr:=wsx i (by omega)
 by_cases h8:i<8
 · have w0:IntKind.i64.wrap (64-1)=63:=by rw [wrapi (by omega)];rfl
   have w1:IntKind.i64.wrap (63- (i:Int))=((63-i:Nat):Int):=by rw [wrapi (by omega)];omega
   have w2:IntKind.u64.wrap (total:Int)=total:=u64i (by omega)
   have w3:IntKind.u64.wrap ((total:Int)*8)=((8*total:Nat):Int):=by rw [u64i (by omega)];omega
   have w4:IntKind.i64.wrap (8* (i:Int))=((8*i:Nat):Int):=by rw [wrapi (by omega)];omega
   refine gy8 w0 w1 w2 w3 w4 hel Ac Ac ?_;refine ⟨fun _=> ?_,fun h=>absurd h (by omega)⟩
   repeat (with_reducible refine And.intro (by first|omega|exact ⟨by omega,by omega⟩ |exact ⟨by omega,q2D _⟩) ?_)
   refine ⟨i+1,h8,by dsimp only;omega,?_,?_⟩
   · dsimp only;rw [byteQ _ _ (by omega),←z2U r total (by omega) h8]
   with_reducible refine sx1 hwr ?_;trivial
 obtain rfl:i=8:=by omega
 refine uQ 6 _ ?_;with_reducible refine sy2 hel Ac ?_
 refine ⟨fun h=>absurd h (by omega),fun _=> ?_⟩
 refine uQ 1 _ ?_;with_reducible refine sxE ?_
 refine q1i 1 rfl rfl (by rw [hel];decide) ?_ ?_ ?_
 · with_reducible refine sxE ?_;trivial
 · with_reducible refine sxE ?_
   omega
 with_reducible refine sxE ?_
 have hck:List.take 64 (endP r total 64 8)=endP r total 64 8:=Ah (by omega)
 rw [hck];refine gy2 hel Ac ?_;refine ⟨by omega,?_⟩
 refine q4R [.dead] hJ yg (i:=b.length / 64) (by omega) (fun n=>⟨_,_,⟨by rw [show blkAt (padT b total) (b.length / 64)=_ from q6z (padT b total) (b.length / 64) 0,hea,Au],rfl⟩,q2V rfl⟩) fun c=> ?_
 cases c
 · refine gQ ?_;exact ⟨_,_,rfl,rfl,by omega⟩
 refine gQ ?_;exact ⟨_,_,rfl,rfl,by omega⟩
def foldB(h:List Int)(p:List UInt8):Nat→List Int
 |0=>h
 |k+1=>blkS (blkAt p k) (foldB h p k)
theorem q5z(p:List UInt8):∀k,foldB hS0 p k=hashS p k
 |0=>rfl
 |k+1=>by rw [foldB,q5z p k];rfl
theorem q1q{h:List Int}(hh:inWs h)(p:List UInt8):∀k,inWs (foldB h p k)
 |0=>hh
 |_+1=>z1t
def smH(h:List Int)(p:List UInt8)(i:Nat)(H':List SObj):Prop:=∃G,H'= .row .u8 (List.replicate 32 0) :: .row (.int .u32) (foldB h p i) :: G
theorem j2R(b:List UInt8)(hb:b.length≤70368744177664):PC Tryz.prog 254 [.isl .u8 b] (.dat (.arr 32 .u8) (shaS b)):=by
 refine q0w rfl rfl (z2n (q6H noFG fi254 ?_))
 letI:Ghost:=topG noFG []
 refine gQ ?_;refine q3v (t:=.arr 8 (.int .u32)) (x:=dat_sha_start) (ag:=some 8) (s:=.dat (.arr 8 (.int .u32)) dat_sha_start) (by unfold datList;repeat (first|exact .head _|apply List.Mem.tail)) rfl (.inr rfl) ?_
 refine gQ ?_;refine cQ (j0f b b.length hb) ?_;refine j4m (smH hS0 (padS b)) (fun _ _ _=>False) rfl rfl rfl (z0q b b.length hb hb) (fun i n args' new h=>by rw [h.1];rfl) ⟨[],rfl⟩ rfl ?_ ?_ ?_
 · rintro i _ args' new hi ⟨G,rfl⟩ ⟨rfl,rfl⟩ L1 L2
   letI:Ghost:=pinG noFG L1
   rw [Ai];refine uQ 600 _ ?_;simp only [putL,CD];with_reducible refine sxaE ?_
   letI:Ghost:=pinG noFG L2
   refine aQ ?_;have hbl:(blkAt (padT b b.length) i).length=64:=q9S (q9C b b.length) hi;refine eQ [1] (j3A (blkAt (padT b b.length) i) _ hbl (q1q q5X _ i)) ?_;exact ⟨G,rfl⟩
 · rintro D _ ⟨G,rfl⟩
   letI:Ghost:=topG noFG [D]
   have hv:=q1q q5X (padS b) (blksN b);have hfl:=hv.1;have hfe:bytesS (foldB hS0 (padS b) (blksN b))=shaS b:=by rw [q5z];rfl
   generalize foldB hS0 (padS b) (blksN b)=h at*;refine gQ ?_;have htk:List.take 8 h=h:=Ah (by omega)
   rw [htk];refine ⟨by omega,q0a (z6m h hv) ?_⟩
   have hbl:=q1p h;refine gy1 hbl ?_;rw [hfe]
 rintro D i ex _ hi h;exact h.elim
theorem z6M{p q:List UInt8}{i:Nat}(h:64*i+64≤p.length):blkAt (p++q) i=blkAt p i:=by
 unfold blkAt;rw [A8 h]
theorem z2f{p q:List UInt8}{c i:Nat}(h:p.length=64*c):blkAt (p++q) (c+i)=blkAt q i:=by
 unfold blkAt;rw [Cw,BS,AY (by rw [Aw];omega),As,Aw,h]
 congr 1
 · omega
 congr 1;omega
theorem q2R(h:List Int){p q:List UInt8}:∀ {k:Nat},64*k≤p.length→foldB h (p++q) k=foldB h p k
 |0,_=>rfl
 |k+1,hk=>by rw [foldB,foldB,q2R h (by omega),z6M (by omega)]
theorem q7r(h:List Int){p q:List UInt8}{c:Nat}(hp:p.length=64*c):∀k,foldB h (p++q) (c+k)=foldB (foldB h p c) q k
 |0=>by rw [AK,q2R h (by omega)];rfl
 |k+1=>by rw [←Nat.add_assoc,foldB,foldB,q7r h hp k,z2f hp]
abbrev HaD:Type:=List Int×List UInt8×Int
structure HRep (m:List UInt8) (x:HaD):Prop where
 n:x.2.2=(m.length:Int)
 rest:x.2.1.length=64
 len:x.1.length=8
 st:m.length≠0→x.1=foldB hS0 m (m.length / 64)
 tail:x.2.1.take (m.length%64)=m.drop (64* (m.length / 64))
theorem z8t:HRep [] (List.replicate 8 0,List.replicate 64 0,0):=⟨rfl,by simp,by simp,fun h=>absurd rfl h,by simp⟩
def wrR(m rest b:List UInt8):List UInt8:=
 if m.length%64+b.length<64 then splice rest (m.length%64) b
 else splice (if 0<m.length%64 then splice rest (m.length%64) (b.take (64-m.length%64)) else rest) 0 ((m++b).drop (64* ((m++b).length / 64)))
def wrS(m:List UInt8)(x:HaD)(b:List UInt8):HaD:=(foldB hS0 (m++b) ((m++b).length / 64),wrR m x.2.1 b,((m++b).length:Int))
theorem q2t{α:Type}{xs ys:List α}{i:Nat}(h:i+ys.length≤xs.length):(splice xs i ys).length=xs.length:=by simp [splice];omega
theorem q7j{α:Type}{xs ys:List α}{i:Nat}(h:i+ys.length≤xs.length):(splice xs i ys).take (i+ys.length)=xs.take i++ys:=by
 unfold splice;rw [A8 (by rw [Af,Aw];omega),Ah (by rw [Af,Aw];omega)]
theorem q9z{m b:List UInt8}{x:HaD}(h:HRep m x):HRep (m++b) (wrS m x b):=by
 obtain ⟨h1,h2,h3,h4,h5⟩:=h;have hlen:(m++b).length=m.length+b.length:=Af;have hl:(wrR m x.2.1 b).length=64:=by
  unfold wrR;split
  · rw [q2t (by omega)];exact h2
  have h6:((m++b).drop (64* ((m++b).length / 64))).length≤64:=by rw [Ak];omega
  split
  · rw [q2t,q2t] <;> (try rw [q2t]) <;> (try rw [Aw]) <;>omega
  rw [q2t] <;>omega
 refine ⟨rfl,hl,(q1q q5X _ _).1,fun _=>rfl,?_⟩;show (wrR m x.2.1 b).take _=_;unfold wrR at hl⊢;split
 · rename_i hlt;have e:(m++b).length%64=m.length%64+b.length:=by omega
   rw [e,q7j (by omega),h5,Bn (by omega)]
   congr 2;omega
 rename_i hge;rw [if_neg hge] at hl;have h6:((m++b).drop (64* ((m++b).length / 64))).length=(m++b).length%64:=by rw [Ak];omega
 generalize hr:(if 0<m.length%64 then splice x.2.1 (m.length%64) (b.take (64-m.length%64)) else x.2.1)=r at*;generalize ht:(m++b).drop (64* ((m++b).length / 64))=t at*;have hrl:r.length=64:=by
  rw [←hr];split
  · rw [q2t] <;> (try rw [Aw]) <;>omega
  exact h2
 have:=q7j (xs:=r) (ys:=t) (i:=0) (by omega)
 rw [Ac,BL,As] at this;rw [←h6];exact this
theorem j0b{m:List UInt8}{x:HaD}(h:HRep m x)(hm:m.length≠0):bytesS (foldB x.1 (padT (x.2.1.take (m.length%64)) m.length) (blksN (x.2.1.take (m.length%64))))=shaS m:=by
 obtain ⟨h1,h2,h3,h4,h5⟩:=h;rw [h4 hm,h5];have hp:padS m=m.take (64* (m.length / 64))++padT (m.drop (64* (m.length / 64))) m.length:=by
  unfold padS padT padZ;have e:padN (m.drop (64* (m.length / 64))).length=padN m.length:=by
   rw [Ak];unfold padN;congr 2;omega
  rw [e];simp only [←List.append_assoc,Bb]
 have hb:blksN m=m.length / 64+blksN (m.drop (64* (m.length / 64))):=by
  unfold blksN;rw [Ak];omega
 unfold shaS;rw [←q5z,hp,hb,q7r hS0 (by rw [Aw];omega)]
 congr 2;have:=q2R hS0 (p:=m.take (64* (m.length / 64))) (q:=m.drop (64* (m.length / 64))) (k:=m.length / 64) (by rw [Aw];omega)
 rw [Bb] at this;exact this
theorem z5p(b:List UInt8)(r:List UInt8×Int)(h:List Int)(hb:b.length=64)(hh:inWs h):PE Tryz.prog 282 [.rptr 0 HH 0 0,.isl .u8 b] [.row HH [(h,r)]] (.ret (.tup [])) [.row HH [((blkS b h),r)]]:=by
 refine q0b (Ae _) ?_;refine rQ fi282 ?_;refine q0y (ι:=Nat) (fun t=>[(26,rI t)]) (fun t=>[.row HH [(h,r)],.row (.int .u32) (wL b t)]) (fun t=>16-t) (fun t=>t≤16) 0 (Al _) (by rw [q6L];rfl) ?_ ?_
 · with_reducible refine sxE ?_;trivial
 intro t ht;have hwr:=wsx t (by omega)
 have hwl:=q4h b t;by_cases hlt:t<16
 · have w1:IntKind.i64.wrap (4* (t:Int))=((4*t:Nat):Int):=by rw [wrapi (by omega)];omega
   have w4:IntKind.i64.wrap (((4*t:Nat):Int)+4)=((4*t+4:Nat):Int):=by rw [wrapi (by omega)];omega
   refine gy4 w1 w4 hwl Ac ?_;have hdl:(List.drop (4*t) (List.take (4*t+4) b)).length=4:=by rw [Ak,Aw];omega
   refine ⟨fun _=> ?_,fun h=>absurd h (by omega)⟩
   repeat (with_reducible refine And.intro (by first|omega|exact ⟨by omega,by omega,by omega,by omega⟩ |exact ⟨by omega,by omega⟩) ?_)
   refine ⟨t+1,by show t+1≤16;omega,by dsimp only;omega,?_,?_⟩
   · have hd:∀j,j<4→(List.drop (4*t) (List.take (4*t+4) b)).getD j Ty.u8.dflt=b.getD (4*t+j) 0:=fun j hj=>by
      rw [Ad,AF,BB (by omega),←Ad]
      rfl
     have ho:=or4 fun j=>(List.drop (4*t) (List.take (4*t+4) b)).getD j Ty.u8.dflt;rw [ho,hd 0 (by omega),hd 1 (by omega),hd 2 (by omega),hd 3 (by omega)]
     have hw:((256* (256* (256* (b.getD (4*t+0) 0).toNat+ (b.getD (4*t+1) 0).toNat)+ (b.getD (4*t+2) 0).toNat)+ (b.getD (4*t+3) 0).toNat:Nat):Int)=wS b t:=by
      rw [z4a hlt];simp only [wdP,byI];omega
     show [SObj.row HH [(h,r)],SObj.row (.int .u32) ((wL b t).set t ((256* (256* (256* (b.getD (4*t+0) 0).toNat+ (b.getD (4*t+1) 0).toNat)+ (b.getD (4*t+2) 0).toNat)+ (b.getD (4*t+3) 0).toNat:Nat):Int))]= [SObj.row HH [(h,r)],SObj.row (.int .u32) (wL b (t+1))];rw [hw,q4i b (by omega)]
   with_reducible refine sx1 hwr ?_;trivial
 obtain rfl:t=16:=by omega
 refine gy2 hwl Ac ?_;refine ⟨fun h=>absurd h (by omega),fun _=> ?_⟩
 refine q2d (ι:=Nat) (fun t=>[(7,rI t)]) (fun t=>[.row HH [(h,r)],.row (.int .u32) (wL b t)]) (fun t=>64-t) (fun t=>16≤t∧t≤64) 16 (by decide) 2 rfl (by decide) (fun _=>rfl) (fun _=>rfl) (fun _=>rfl) ?_ ?_
 · with_reducible refine sxE ?_
   rfl
 intro t ht;have hwl:=q4h b t;have hwr:=wsx t (by omega)
 by_cases hlt:t<64
 · have e15:IntKind.i64.wrap ((t:Int) -15)=((t-15:Nat):Int):=by rw [wrapi (by omega)];omega
   have e2:IntKind.i64.wrap ((t:Int) -2)=((t-2:Nat):Int):=by rw [wrapi (by omega)];omega
   have e7:IntKind.i64.wrap ((t:Int) -7)=((t-7:Nat):Int):=by rw [wrapi (by omega)];omega
   have e16:IntKind.i64.wrap ((t:Int) -16)=((t-16:Nat):Int):=by rw [wrapi (by omega)];omega
   have g15:=q1j b (t:=t) (j:=t-15) (by omega) (by omega)
   have g2:=q1j b (t:=t) (j:=t-2) (by omega) (by omega)
   have g7:=q1j b (t:=t) (j:=t-7) (by omega) (by omega)
   have g16:=q1j b (t:=t) (j:=t-16) (by omega) (by omega)
   have i15:=q2P b (t-15);have i2:=q2P b (t-2);have i7:=q2P b (t-7);have i16:=q2P b (t-16);refine gyd10 e15 e2 e7 e16 g15 g2 g7 g16 hwl Ac ?_;refine ⟨fun _=>⟨⟨by omega,by omega⟩,by omega,⟨by omega,by omega⟩,by omega,⟨by omega,by omega⟩,by omega,⟨by omega,by omega⟩,by omega,q0H (q0M (wS b (t-2)) [17,19] i2 (by decide) (by decide)) ?_⟩,fun h=>absurd hlt (by omega)⟩
   refine gQ ?_;refine q0L 2 (by decide) ?_
   with_reducible refine sxE ?_
   refine q0k (q0M (wS b (t-15)) [7,18] i15 (by decide) (by decide)) ?_
   refine uQ 600 _ ?_;simp (maxSteps:=3000000) only [e15,e2,e7,e16,g15,g2,g7,g16,hwl,Ac,Ty.dflt,go_sem,↓zA,↓reduceIte,↓reduceDIte] <;>try simp only [zB]
   repeat (with_reducible refine And.intro (by first|omega|exact ⟨by omega,by omega⟩) ?_)
   refine ⟨t+1,⟨by omega,hlt⟩,by dsimp only;omega,⟨[.dead],?_⟩,?_⟩
   · rw [schU i15 i2,←z4j (by omega),q4i b hlt]
     rfl
   with_reducible refine sx1 hwr ?_;trivial
 obtain rfl:t=64:=by omega
 refine gQ ?_;have hl:=hh.1;refine ⟨fun h=>absurd h (by omega),fun _=> ?_⟩
 repeat (with_reducible refine And.intro (by omega) ?_)
 refine q3v (t:=.arr 64 (.int .u32)) (x:=dat_sha_constants) (ag:=some 64) (s:=.dat (.arr 64 (.int .u32)) dat_sha_constants) (by unfold datList;repeat (first|exact .head _|apply List.Mem.tail)) rfl (.inr rfl) ?_
 refine gQ ?_;refine q2d (ι:=Nat) (fun t=>[(134,rI t),(12,.raw (.int .u32 ((rnds b h t).getD 0 0))),(13,.raw (.int .u32 ((rnds b h t).getD 1 0))),(14,.raw (.int .u32 ((rnds b h t).getD 2 0))),(15,.raw (.int .u32 ((rnds b h t).getD 3 0))),(16,.raw (.int .u32 ((rnds b h t).getD 4 0))),(17,.raw (.int .u32 ((rnds b h t).getD 5 0))),(18,.raw (.int .u32 ((rnds b h t).getD 6 0))),(19,.raw (.int .u32 ((rnds b h t).getD 7 0)))]) (fun t=>[.row HH [(h,r)],.row (.int .u32) (wL b 64)]) (fun t=>64-t) (fun t=>t≤64) 0 (Al _) 2 rfl (by decide) (fun _=>rfl) (fun _=>rfl) (fun _=>rfl) ?_ ?_
 · with_reducible refine sxE ?_
   exact ⟨rfl,rfl,rfl,rfl,rfl,rfl,rfl,rfl⟩
 intro t ht;have hwr:=wsx t (by omega)
 by_cases hlt:t<64
 · have hv:=q1v (b:=b) hh t;generalize hvv:rnds b h t=v at*;have i0:=q0h hv 0 (by decide)
   have i1:=q0h hv 1 (by decide)
   have i2:=q0h hv 2 (by decide)
   have i3:=q0h hv 3 (by decide)
   have i4:=q0h hv 4 (by decide)
   have i5:=q0h hv 5 (by decide)
   have i6:=q0h hv 6 (by decide)
   have i7:=q0h hv 7 (by decide)
   refine gyd3 hl hwl Ac ?_;refine ⟨fun _=>⟨⟨by omega,by omega⟩,⟨by omega,by omega⟩,by omega,?_⟩,fun h=>absurd hlt (by omega)⟩
   refine q0L 2 (by decide) ?_
   with_reducible refine sxE ?_
   refine q0k (q0M _ [6,11,25] i4 (by decide) (by decide)) ?_
   refine gyd3 hl hwl Ac ?_;refine q0k (q4J _ _ _ i4 i5 i6) ?_;refine gyd3 hl hwl Ac ?_;refine q0A 3 ?_;with_reducible refine sxE ?_
   refine cyd3 (q0M _ [2,13,22] i0 (by decide) (by decide)) hl hwl Ac ?_
   refine cyd3 (q2X _ _ _ i0 i1 i2) hl hwl Ac ?_;have hr:rnds b h (t+1)=rnd (kS t) (wS b t) v:=by show rnd (kS t) (wS b t) (rnds b h t)=_;rw [hvv]
   have hT1:=t1U (k:=kS t) (w:=wS b t) hv;have hT2:=t2U hv;refine ⟨t+1,hlt,by dsimp only;omega,⟨[.dead,.dead],rfl⟩,?_⟩
   rw [z0f,q1j b hlt hlt,hT1,hT2,aU,eU];with_reducible refine sy2 hwr hr ?_
   exact ⟨rfl,rfl,rfl,rfl,rfl,rfl,rfl,rfl⟩
 obtain rfl:t=64:=by omega
 refine gyd3 hl hwl Ac ?_;refine ⟨fun h=>absurd h (by omega),fun _=> ?_⟩
 have e8:=list8 (q1v (b:=b) hh 64).1;refine q0y (ι:=Nat) (fun i=>[(186,rI i),(185,.dat (.arr 8 (.int .u32)) (rnds b h 64))]) (fun i=>[.row HH [((blkP b h i),r)],.row (.int .u32) (wL b 64)]) (fun t=>8-t) (fun t=>t≤8) 0 (Al _) ?_ ?_ ?_
 · rw [q3z b hh.1]
 · with_reducible refine sxE ?_
   exact congrArg (SV.dat (.arr 8 (.int .u32))) e8
 intro i hi;have hwr:=wsx i (by omega)
 have hv:=q1v (b:=b) hh 64;have hl:=hv.1;have hbl:=q4T b h i;by_cases hlt:i<8
 · have hbg:=q4O b h hlt;refine gyd4 hl hbl Ac AM ?_;refine ⟨fun _=> ?_,fun h=>absurd hlt (by omega)⟩
   repeat (with_reducible refine And.intro (by first|omega|exact ⟨by omega,by omega⟩) ?_)
   refine ⟨i+1,hlt,by dsimp only;omega,?_,?_⟩
   · rw [hbg,wrapU];show [_,_]= [SObj.row HH [((blkP b h (i+1)),r)],_];rw [←q5a b h hlt]
   with_reducible refine sx1 hwr ?_;trivial
 obtain rfl:i=8:=by omega
 refine gyd3 hl hbl Ac ?_;refine ⟨fun h=>absurd h (by omega),fun _=> ?_⟩
 rw [q4I]
theorem j3O(b:List UInt8)(n:Int)(h:List Int)(hb:b.length=64)(hh:inWs h):PE Tryz.prog 282 [.rptr 0 HH 0 0,.csl 0 .u8 8 0 64] [.row HH [(h,(b,n))]] (.ret (.tup [])) [.row HH [((blkS b h),(b,n))]]:=by
 refine q0b (Ae _) ?_;refine rQ fi282 ?_;refine q0y (ι:=Nat) (fun t=>[(26,rI t)]) (fun t=>[.row HH [(h,(b,n))],.row (.int .u32) (wL b t)]) (fun t=>16-t) (fun t=>t≤16) 0 (Al _) (by rw [q6L];rfl) ?_ ?_
 · with_reducible refine sxE ?_;trivial
 intro t ht;have hwr:=wsx t (by omega)
 have hwl:=q4h b t;by_cases hlt:t<16
 · have w1:IntKind.i64.wrap (4* (t:Int))=((4*t:Nat):Int):=by rw [wrapi (by omega)];omega
   have w4:IntKind.i64.wrap (((4*t:Nat):Int)+4)=((4*t+4:Nat):Int):=by rw [wrapi (by omega)];omega
   refine gy4 w1 w4 hwl Ac ?_;have hdl:(List.drop (4*t) (List.take (4*t+4) b)).length=4:=by rw [Ak,Aw];omega
   refine ⟨fun _=> ?_,fun h=>absurd h (by omega)⟩
   repeat (with_reducible refine And.intro (by first|omega|exact ⟨by omega,by omega,by omega,by omega⟩ |exact ⟨by omega,by omega⟩) ?_)
   refine ⟨t+1,by show t+1≤16;omega,by dsimp only;omega,?_,?_⟩
   · have hd:∀j,j<4→(List.drop (4*t) (List.take (4*t+4) b)).getD j Ty.u8.dflt=b.getD (4*t+j) 0:=fun j hj=>by
      rw [Ad,AF,BB (by omega),←Ad]
      rfl
     have ho:=or4 fun j=>b.getD (4*t+j) Ty.u8.dflt;rw [ho];have hw:((256* (256* (256* (b.getD (4*t+0) 0).toNat+ (b.getD (4*t+1) 0).toNat)+ (b.getD (4*t+2) 0).toNat)+ (b.getD (4*t+3) 0).toNat:Nat):Int)=wS b t:=by
      rw [z4a hlt];simp only [wdP,byI];omega
     show [SObj.row HH [(h,(b,n))],SObj.row (.int .u32) ((wL b t).set t ((256* (256* (256* (b.getD (4*t+0) 0).toNat+ (b.getD (4*t+1) 0).toNat)+ (b.getD (4*t+2) 0).toNat)+ (b.getD (4*t+3) 0).toNat:Nat):Int))]= [SObj.row HH [(h,(b,n))],SObj.row (.int .u32) (wL b (t+1))];rw [hw,q4i b (by omega)]
   with_reducible refine sx1 hwr ?_;trivial
 obtain rfl:t=16:=by omega
 refine gy2 hwl Ac ?_;refine ⟨fun h=>absurd h (by omega),fun _=> ?_⟩
 refine q2d (ι:=Nat) (fun t=>[(7,rI t)]) (fun t=>[.row HH [(h,(b,n))],.row (.int .u32) (wL b t)]) (fun t=>64-t) (fun t=>16≤t∧t≤64) 16 (by decide) 2 rfl (by decide) (fun _=>rfl) (fun _=>rfl) (fun _=>rfl) ?_ ?_
 · with_reducible refine sxE ?_
   rfl
 intro t ht;have hwl:=q4h b t;have hwr:=wsx t (by omega)
 by_cases hlt:t<64
 · have e15:IntKind.i64.wrap ((t:Int) -15)=((t-15:Nat):Int):=by rw [wrapi (by omega)];omega
   have e2:IntKind.i64.wrap ((t:Int) -2)=((t-2:Nat):Int):=by rw [wrapi (by omega)];omega
   have e7:IntKind.i64.wrap ((t:Int) -7)=((t-7:Nat):Int):=by rw [wrapi (by omega)];omega
   have e16:IntKind.i64.wrap ((t:Int) -16)=((t-16:Nat):Int):=by rw [wrapi (by omega)];omega
   have g15:=q1j b (t:=t) (j:=t-15) (by omega) (by omega)
   have g2:=q1j b (t:=t) (j:=t-2) (by omega) (by omega)
   have g7:=q1j b (t:=t) (j:=t-7) (by omega) (by omega)
   have g16:=q1j b (t:=t) (j:=t-16) (by omega) (by omega)
   have i15:=q2P b (t-15);have i2:=q2P b (t-2);have i7:=q2P b (t-7);have i16:=q2P b (t-16);refine gyd10 e15 e2 e7 e16 g15 g2 g7 g16 hwl Ac ?_;refine ⟨fun _=>⟨⟨by omega,by omega⟩,by omega,⟨by omega,by omega⟩,by omega,⟨by omega,by omega⟩,by omega,⟨by omega,by omega⟩,by omega,q0H (q0M (wS b (t-2)) [17,19] i2 (by decide) (by decide)) ?_⟩,fun h=>absurd hlt (by omega)⟩
   refine gQ ?_;refine q0L 2 (by decide) ?_
   with_reducible refine sxE ?_
   refine q0k (q0M (wS b (t-15)) [7,18] i15 (by decide) (by decide)) ?_
   refine uQ 600 _ ?_;simp (maxSteps:=3000000) only [e15,e2,e7,e16,g15,g2,g7,g16,hwl,Ac,Ty.dflt,go_sem,↓zA,↓reduceIte,↓reduceDIte] <;>try simp only [zB]
   repeat (with_reducible refine And.intro (by first|omega|exact ⟨by omega,by omega⟩) ?_)
   refine ⟨t+1,⟨by omega,hlt⟩,by dsimp only;omega,⟨[.dead],?_⟩,?_⟩
   · rw [schU i15 i2,←z4j (by omega),q4i b hlt]
     rfl
   with_reducible refine sx1 hwr ?_;trivial
 obtain rfl:t=64:=by omega
 refine gQ ?_;have hl:=hh.1;refine ⟨fun h=>absurd h (by omega),fun _=> ?_⟩
 repeat (with_reducible refine And.intro (by omega) ?_)
 refine q3v (t:=.arr 64 (.int .u32)) (x:=dat_sha_constants) (ag:=some 64) (s:=.dat (.arr 64 (.int .u32)) dat_sha_constants) (by unfold datList;repeat (first|exact .head _|apply List.Mem.tail)) rfl (.inr rfl) ?_
 refine gQ ?_;refine q2d (ι:=Nat) (fun t=>[(134,rI t),(12,.raw (.int .u32 ((rnds b h t).getD 0 0))),(13,.raw (.int .u32 ((rnds b h t).getD 1 0))),(14,.raw (.int .u32 ((rnds b h t).getD 2 0))),(15,.raw (.int .u32 ((rnds b h t).getD 3 0))),(16,.raw (.int .u32 ((rnds b h t).getD 4 0))),(17,.raw (.int .u32 ((rnds b h t).getD 5 0))),(18,.raw (.int .u32 ((rnds b h t).getD 6 0))),(19,.raw (.int .u32 ((rnds b h t).getD 7 0)))]) (fun t=>[.row HH [(h,(b,n))],.row (.int .u32) (wL b 64)]) (fun t=>64-t) (fun t=>t≤64) 0 (Al _) 2 rfl (by decide) (fun _=>rfl) (fun _=>rfl) (fun _=>rfl) ?_ ?_
 · with_reducible refine sxE ?_
   exact ⟨rfl,rfl,rfl,rfl,rfl,rfl,rfl,rfl⟩
 intro t ht;have hwr:=wsx t (by omega)
 by_cases hlt:t<64
 · have hv:=q1v (b:=b) hh t;generalize hvv:rnds b h t=v at*;have i0:=q0h hv 0 (by decide)
   have i1:=q0h hv 1 (by decide)
   have i2:=q0h hv 2 (by decide)
   have i3:=q0h hv 3 (by decide)
   have i4:=q0h hv 4 (by decide)
   have i5:=q0h hv 5 (by decide)
   have i6:=q0h hv 6 (by decide)
   have i7:=q0h hv 7 (by decide)
   refine gyd3 hl hwl Ac ?_;refine ⟨fun _=>⟨⟨by omega,by omega⟩,⟨by omega,by omega⟩,by omega,?_⟩,fun h=>absurd hlt (by omega)⟩
   refine q0L 2 (by decide) ?_
   with_reducible refine sxE ?_
   refine q0k (q0M _ [6,11,25] i4 (by decide) (by decide)) ?_
   refine gyd3 hl hwl Ac ?_;refine q0k (q4J _ _ _ i4 i5 i6) ?_;refine gyd3 hl hwl Ac ?_;refine q0A 3 ?_;with_reducible refine sxE ?_
   refine cyd3 (q0M _ [2,13,22] i0 (by decide) (by decide)) hl hwl Ac ?_
   refine cyd3 (q2X _ _ _ i0 i1 i2) hl hwl Ac ?_;have hr:rnds b h (t+1)=rnd (kS t) (wS b t) v:=by show rnd (kS t) (wS b t) (rnds b h t)=_;rw [hvv]
   have hT1:=t1U (k:=kS t) (w:=wS b t) hv;have hT2:=t2U hv;refine ⟨t+1,hlt,by dsimp only;omega,⟨[.dead,.dead],rfl⟩,?_⟩
   rw [z0f,q1j b hlt hlt,hT1,hT2,aU,eU];with_reducible refine sy2 hwr hr ?_
   exact ⟨rfl,rfl,rfl,rfl,rfl,rfl,rfl,rfl⟩
 obtain rfl:t=64:=by omega
 refine gyd3 hl hwl Ac ?_;refine ⟨fun h=>absurd h (by omega),fun _=> ?_⟩
 have e8:=list8 (q1v (b:=b) hh 64).1;refine q0y (ι:=Nat) (fun i=>[(186,rI i),(185,.dat (.arr 8 (.int .u32)) (rnds b h 64))]) (fun i=>[.row HH [((blkP b h i),(b,n))],.row (.int .u32) (wL b 64)]) (fun t=>8-t) (fun t=>t≤8) 0 (Al _) ?_ ?_ ?_
 · rw [q3z b hh.1]
 · with_reducible refine sxE ?_
   exact congrArg (SV.dat (.arr 8 (.int .u32))) e8
 intro i hi;have hwr:=wsx i (by omega)
 have hv:=q1v (b:=b) hh 64;have hl:=hv.1;have hbl:=q4T b h i;by_cases hlt:i<8
 · have hbg:=q4O b h hlt;refine gyd4 hl hbl Ac AM ?_;refine ⟨fun _=> ?_,fun h=>absurd hlt (by omega)⟩
   repeat (with_reducible refine And.intro (by first|omega|exact ⟨by omega,by omega⟩) ?_)
   refine ⟨i+1,hlt,by dsimp only;omega,?_,?_⟩
   · rw [hbg,wrapU];show [_,_]= [SObj.row HH [((blkP b h (i+1)),(b,n))],_];rw [←q5a b h hlt]
   with_reducible refine sx1 hwr ?_;trivial
 obtain rfl:i=8:=by omega
 refine gyd3 hl hbl Ac ?_;refine ⟨fun h=>absurd h (by omega),fun _=> ?_⟩
 rw [q4I]
end Go.Proofs.YtmapiojgmbgbgaaGreatDoor
