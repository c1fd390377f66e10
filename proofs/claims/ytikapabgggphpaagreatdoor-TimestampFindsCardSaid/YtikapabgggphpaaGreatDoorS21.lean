/- A part of the proof: a symbolic executor over abstract values, and its soundness. -/
import Derived.Test.YtikapabgggphpaaGreatDoorS20
set_option linter.all false
set_option maxHeartbeats 4000000
namespace Go.Sx
open Go

variable {P:Program} {AQ:Ex→List SV→List SObj→Prop} {k0:Nat} {k:List It} {t:List SV} {H:List SObj}
variable {g:FG} {Ds:List Nat}

theorem q8A{E:EnD}{D:Nat}{C:Cx}{ds:List Deferred}(h:(topG g (D :: Ds)).fin {E with base:=markD D :: E.base} C H ds):(topG g Ds).fin E C H ds:=by
 obtain ⟨Ds',e,⟨S,hc⟩,hnd,hok⟩:=h;exact ⟨Ds'++ [D],by rw [e];simp,⟨S,g.base (E:={E with base:=markD D :: E.base}) E.base hc⟩,by simpa using hnd,by simpa using hok⟩
theorem q8P{E:EnD}{D:Nat}(e:Exit)(a:Act)(w:World)(h: @conc (topG g (D :: Ds)) {E with base:=markD D :: E.base} AQ e a w): @conc (topG g Ds) E AQ e a w:=by
 cases e with
 |normal=>obtain ⟨C,t,H,h1,h2,h3⟩:=h;exact ⟨C,t,H,h1,h2,⟨h3.wd,h3.ext,q8A h3.defs,h3.tmps⟩⟩
 |ret=>obtain ⟨C,t,H,h1,h2,h3⟩:=h;exact ⟨C,t,H,h1,h2,⟨h3.wd,h3.ext,q8A h3.defs,h3.tmps⟩⟩
 |exit id=>obtain ⟨C,t,H,h1,h2,h3⟩:=h;exact ⟨C,t,H,h1,h2,⟨h3.wd,h3.ext,q8A h3.defs,h3.tmps⟩⟩
 |panic ch=>obtain ⟨C,t,H,s,v,h1,h2,h3,h4,h5,h6,h7,h8⟩:=h;exact ⟨C,t,H,s,v,h1,h2,h3,h4,h5,h6,q8A h7,h8⟩
 |goto l=>exact h
 |outgrown=>exact h

theorem q4Y{w:World}{o:Obj}{b:Nat}(h:b<w.heap.size):(w.alloc o).heap[b]?=w.heap[b]?:=by
 show (w.heap.push o)[b]?=_;rw [Array.getElem?_push_lt h,BG h]

def RfStop(g:FG)(P:Program)(AQ:Ex→List SV→List SObj→Prop)(k0:Nat)(k:List It)(t:List SV)(Ds:List Nat):Ex→List SObj→Prop
 |.exit id,H=>∃k',exitTo' id k=some k'∧ @Sound (topG g Ds) P AQ ⟨k0,k',t,H⟩
 |.ret,H=>AQ .ret t H
 |_,_=>False
theorem z8X{inf:Prop}{gop:Operand}{ps:Array Tmp}{assign body:Code}{f:FuncId}{fi ca:List SV}{N:Nat}{vw:Nat→Nat→List SV→List SObj→Prop}{Hs:Nat→List SObj→Prop}{X:Nat→Ex→List SObj→Prop}
 (hgop:evT t gop= .fn f fi ca)(hfi:SV.cleanL fi=true)(hca:SV.cleanL ca=true)(hit:IterI inf P f fi ca N vw)(hinf:inf→∀Hn,¬Hs N Hn)(hr:RfOk P g ps assign body t N vw Hs X)(h0:Hs 0 H)(hns:noStop k=true)
 (hdone:∀D Hn,Hs N Hn→ @Sound (topG g (D :: Ds)) P AQ ⟨k0,k,t,Hn⟩)(hstop:∀D i ex Hn,i<N→X i ex Hn→RfStop g P AQ k0 k t (D :: Ds) ex Hn):
 @Sound (topG g Ds) P AQ ⟨k0,.code (.rangeFunc gop ps assign body) :: k,t,H⟩:=by
 intro E r n C a hfit hd;obtain ⟨hn0,rfl⟩:E.C.n≤k0∧r=none:=hfit;simp only [wpT];obtain ⟨hdf,htab,⟨S0,hcore⟩,hnd,hok⟩:=hd.defs;have hgv:=q2w hd.tmps gop;rw [hgop,SV.den] at hgv;obtain ⟨v1,v2,hgv,d1,d2⟩:=hgv;refine wpIn_rangeFunc fun fn _=> ?_;obtain ⟨w1,hw1⟩:∃w1,w1=(C.w.alloc (.deferred (some []))).alloc (.loop (rfRec fn a.tmps ps assign body C.w.heap.size .ready none)):=⟨_,rfl⟩;have hsz:w1.heap.size=C.w.heap.size+2:=by rw [hw1];simp
 have hold:∀b,b<C.w.heap.size→w1.heap[b]?=C.w.heap[b]?:=fun b hb=>by rw [hw1,q4Y (by simp;omega),q4Y hb]
 have hD0:w1.heap[C.w.heap.size]?=some (.deferred (some [])):=by rw [hw1,q4Y (by simp),World.alloc_heap_new]
 have hl0:w1.heap[C.w.heap.size+1]?=some (.loop (rfRec fn a.tmps ps assign body C.w.heap.size .ready none)):=by
  rw [hw1];have:=World.alloc_heap_new (C.w.alloc (.deferred (some []))) (.loop (rfRec fn a.tmps ps assign body C.w.heap.size .ready none));rwa [World.size_alloc] at this
 have henter:(Instr.enterLoop fn a.tmps ps assign body (Fw none).round).run P C.w= .ok (C.w.heap.size+1,[markD C.w.heap.size]) w1:=by rw [hw1];exact run_enterLoop_outer _ _ _ _ _
 have hvw:World.os w1=C.w.os∧w1.tape=C.w.tape∧w1.output=C.w.output:=by rw [hw1];exact ⟨rfl,rfl,rfl⟩
 clear hw1;obtain ⟨g1,g2⟩:=j1t (w':=w1) hd.wd (by omega) hold hvw.1 hvw.2.1 hvw.2.2
 have hDlt:∀D∈Ds,D<C.w.heap.size:=fun D hD=>(AF.1 (hok D hD).at_).1;have hnew:∀b,C.w.heap.size≤b→¬C.I b∧¬OwnB C H b:=fun b hb=>⟨fun h=>absurd (hd.wd.imm b h) (by omega),fun h=>absurd (hd.wd.own b h).2 (by omega)⟩
 have hEs:E.C.w.heap.size≤C.w.heap.size:=hd.ext.size;have hcal:Cal g E (C.w.heap.size :: Ds) t a.tmps.toList (C.w.heap.size+1) (.loop (rfRec fn a.tmps ps assign body C.w.heap.size .ready none)) {C with w:=w1} H S0:=by
  refine ⟨g1,hd.ext.trans g2,g.next g2 hcore,q0n g2.evo hd.tmps,fun D hD=> ?_,fun hm=> ?_,by omega,(hnew _ (by omega)).1,(hnew _ (by omega)).2,hl0,trivial,⟨htab.tab.next g2,htab.old⟩⟩
  · rcases Bm.1 hD with rfl|hD
    · exact ⟨hEs,(hnew _ (Ag _)).1,(hnew _ (Ag _)).2,hD0⟩
    exact (hok D hD).next g2
  rcases Bm.1 hm with h|h
  · omega
  have:=hDlt _ h;omega
 have hB:E.C.w.heap.size≤C.w.heap.size+2:=by omega
 have hJ:=j4X (g:=g) (E:=E) (Ds:=C.w.heap.size :: Ds) (t:=t) (tms:=a.tmps.toList) (l:=C.w.heap.size+1) (N:=N) (Hs:=Hs) (X:=X) (rec:=rfRec fn a.tmps ps assign body C.w.heap.size) hB (by omega) (fun D hD=>by
  rcases Bm.1 hD with rfl|hD
  · omega
  have:=hDlt _ hD;omega)
 have yg:=z5t (E:=E) (Ds:=C.w.heap.size :: Ds) (l:=C.w.heap.size+1) (fn:=fn) (us:=a.tmps) (D:=C.w.heap.size) hr hB;have hj0:rfJ g E (C.w.heap.size :: Ds) t a.tmps.toList (C.w.heap.size+1) N Hs X (rfRec fn a.tmps ps assign body C.w.heap.size) 0 (calS (C.w.heap.size :: Ds) (C.w.heap.size+1) {C with w:=w1} H S0) w1 C.I:=
  ⟨{C with w:=w1},S0,H,_,rfl,fun b=>⟨fun h=>⟨h,g1.imm b h⟩,And.left⟩,hcal,fun _=>Iff.rfl,.inl ⟨Ai _,h0,rfl⟩⟩
 have hno:∀b,¬OwnB ⟨fun _=>none,1,C.I,w1⟩ [.mark 0] b:=fun b ⟨x,o,_,_,hb⟩=>by cases hb
 have hw2:Wd ⟨fun _=>none,1,C.I,w1⟩ [.mark 0]:=by
  refine ⟨rfl,fun x o ho=> ?_,fun b hb=>absurd hb (hno b),fun x x' o o' b _ _ _ _ h=>(by cases h),g1.imm⟩
  cases x with
  |zero=>simp at ho;subst ho;trivial
  |succ x=>simp at ho
 have hy:=YCore.mk (B:=C.w.heap.size+2) (E:=startE true (calS (C.w.heap.size :: Ds) (C.w.heap.size+1) {C with w:=w1} H S0) ⟨fun _=>none,1,C.I,w1⟩ [.mark 0]) (C:=⟨fun _=>none,1,C.I,w1⟩) (H:=[.mark 0]) (S:=calS (C.w.heap.size :: Ds) (C.w.heap.size+1) {C with w:=w1} H S0)
  Nat.one_pos (Ag _) (fun n hn=>by cases (q4f (by simp) hn).1) (by show _≤w1.heap.size;omega) (Ag _) (fun b hb=>absurd hb (hno b)) ⟨0,rfl,hj0⟩ (fun b hb=>⟨.inr ((q0R rfl).2 (.inr ⟨hb,(hJ.fp hj0 hb).2⟩)),hno b⟩)
 have hkeep:Keeps C.I C.I C.w w1:=g2.evo.I;have htab2:TabT ⟨fun _=>none,1,C.I,w1⟩ [.mark 0]:=htab.tab.keep g2.evo.I fun b _ hb _=>⟨by show b<w1.heap.size;omega,hno b,hold b hb⟩
 have hcall:=hit.2 (C.w.heap.size+1) (C.w.heap.size+2) _ hJ yg (fun hi S w I ⟨_,_,Hn,_,_,_,_,_,hat⟩=>by
  rcases hat with ⟨_,h1,_⟩ | ⟨i,_,_,h1,h2,_⟩
  · exact hinf hi Hn h1
  · omega) (startE true (calS (C.w.heap.size :: Ds) (C.w.heap.size+1) {C with w:=w1} H S0) ⟨fun _=>none,1,C.I,w1⟩ [.mark 0]) ⟨fun _=>none,1,C.I,w1⟩ (v1++ [Value.func (.yield (C.w.heap.size+1)) #[] #[]]++v2) hw2 ⟨⟨htab2,htab2.lt⟩,_,hy⟩
  (q0w.2 ⟨_,_,rfl,q0w.2 ⟨_,_,rfl,q1c (C:=C) hkeep hfi d1,q0b.2 ⟨_,[],rfl,by rw [SV.den],q0u.2 rfl⟩⟩,q1c (C:=C) hkeep hca d2⟩)
 refine ⟨C.w.heap.size+1,[markD C.w.heap.size],w1,{target:=.fn (.func f) v2.toArray,args:=v1.toArray++ #[.func (.yield (C.w.heap.size+1)) #[] #[]]},w1,f,(v1++ [Value.func (.yield (C.w.heap.size+1)) #[] #[]]++v2).toArray,w1,henter,?_,fun f' _=>q4T none f',?_,fun h=>(by cases h),q3K (hcall.mono ?_)⟩
 · simp [resolve,hgv,Deferred.ofValue];rfl
 · simp [invoke,q2F hit.1]
 rintro e w' ⟨o,H',C',⟨s,m,rfl,hm,hN⟩,rfl,hw',hx',v,rfl,hv⟩;obtain ⟨_,S',hy'⟩:= @Stp.inv (fgG (yFG hJ)) _ _ _ _ _ hx' ⟨⟨htab2,htab2.lt⟩,_,hy⟩;obtain ⟨m',hm',C3,S3,H3,o3,e3,hI3,hc3,hS3,hat⟩:=hy'.st;have hmm:m'=m:=by rw [hm] at hm';simpa using hm'.symm
 subst hmm;have hden:∀ (pe:Option Code), @Den (topG g (C.w.heap.size :: Ds)) {E with base:=markD C.w.heap.size :: E.base} (chgC C3 (C.w.heap.size+1) (.loop (rfRec fn a.tmps ps assign body C.w.heap.size .exhausted pe))) t H3 {a with defers:=[markD C.w.heap.size]++a.defers}:=fun pe=>by
  have hcal4:=hc3.chg (o':=.loop (rfRec fn a.tmps ps assign body C.w.heap.size .exhausted pe)) trivial;exact ⟨hcal4.wd,hcal4.ext,⟨by rw [hdf];rfl,hcal4.tab,⟨S3,g.base _ hcal4.core⟩,BK.2 ⟨fun h=>absurd (hDlt _ h) (A5 _),hnd⟩,hcal4.marks⟩,hcal4.tmps⟩
 rcases hat with ⟨hmN,hHs,rfl⟩ | ⟨i,ex,c,rfl,hi,hX,hex,rfl⟩
 · have hmN:m'=N:=Nat.le_antisymm hmN hN;subst hmN;refine ⟨none,_,by rw [←e3];exact run_endLoop hc3.lat (by simp),?_⟩
   exact (q3p (fun e a w hh=>q8P e a w hh) k hns).1 _ _ (hdone C.w.heap.size H3 hHs {E with base:=markD C.w.heap.size :: E.base} none n _ _ ⟨hn0,rfl⟩ (hden none))
 have hs:=hstop C.w.heap.size i ex H3 hi hX;refine ⟨some c,_,by rw [←e3];exact run_endLoop hc3.lat (by simp),?_⟩
 cases ex with
 |normal=>exact hs.elim
 |pan s=>exact hs.elim
 |ret=>
  cases hex;exact wpIn_ret (q8P .ret _ _ ⟨_,t,H3,hs,rfl, @Den.fin (topG g (C.w.heap.size :: Ds)) _ _ _ _ _ (hden (some .ret))⟩)
 |exit id=>
  cases hex;obtain ⟨k',hk',hs⟩:=hs;have h9:=hs {E with base:=markD C.w.heap.size :: E.base} none n _ _ ⟨hn0,rfl⟩ (hden (some (.exit id)))
  have h8:= @q2W (topG g (C.w.heap.size :: Ds)) P (Fw none) n _ _ id _ _ k' k hk' h9;exact wpIn_exit ((q3p (G:=topG g Ds) (fun e a w hh=>q8P e a w hh) k hns).2 id _ _ h8)
end Go.Sx
namespace Go.Sx
open Go

variable {P:Program} {AQ:Ex→List SV→List SObj→Prop} {k0:Nat} {k:List IT} {t:List SV} {H:List SObj}
variable {g:FG} {Ds:List Nat}

theorem z4R:(#[]:Array Value).size=0:=rfl
attribute [go_sem] z4R
def RfStopI(g:FG)(P:Program)(AQ:Ex→List SV→List SObj→Prop)(k0:Nat)(k:List IT)(t:List SV)(Ds:List Nat):Ex→List SObj→Prop
 |.exit id,H=>∃k',exitI id k=some k'∧ @SoundI (topG g Ds) P AQ ⟨k0,k',t,H⟩
 |.ret,H=>AQ .ret t H
 |_,_=>False
theorem j0e{inf:Prop}{gop:Operand}{ps:Array Tmp}{asg body:IC}{f:FuncId}{fi ca:List SV}{N:Nat}{vw:Nat→Nat→List SV→List SObj→Prop}(Hs:Nat→List SObj→Prop)(X:Nat→Ex→List SObj→Prop)
 (hgop:evT t gop= .fn f fi ca)(hfi:SV.cleanL fi=true)(hca:SV.cleanL ca=true)(hit:IterI inf P f fi ca N vw)(hinf:inf→∀Hn,¬Hs N Hn)(hlen:∀i n args' new,vw i n args' new→args'.length=ps.size)(h0:Hs 0 H)(hns:noStopI k=true)
 (hround:∀i Hi args' new,i<N→Hs i Hi→vw i Hi.length args' new→∀L1 L2, @SoundI (pinG g L1) P (fun _ _ _=>False)
  ⟨(Hi++new).length,[.ic asg,.stop fun t' H'=> @SoundI (pinG g L2) P (RQ Hs X i) ⟨H'.length,[.ic body],t',H'⟩],putL ps.toList args' t,Hi++new⟩)
 (hdone:∀D Hn,Hs N Hn→ @SoundI (topG g (D :: Ds)) P AQ ⟨k0,k,t,Hn⟩)(hstop:∀D i ex Hn,i<N→X i ex Hn→RfStopI g P AQ k0 k t (D :: Ds) ex Hn):
 @SoundI (topG g Ds) P AQ ⟨k0,.ic (.rf gop ps asg body) :: k,t,H⟩:= @q0f (topG g Ds) P AQ k0 t H _ (fun td' hr=>by
 obtain ⟨c',r,rfl,hc,hr⟩:=hr;obtain ⟨a,b,rfl,ha,hb⟩:=q0E hc;refine z8X (Hs:=Hs) (X:=X) hgop hfi hca hit hinf ⟨hlen,fun i Hi args' new hi hH hv L1 L2=>⟨_,fun t' H' hΦ=> ?_, @q0h (pinG g L1) _ _ _ _ _ _ _ (hround i Hi args' new hi hH hv L1 L2) ⟨a,_,rfl,ha,[],rfl,rfl⟩⟩⟩ h0 (q2Z hr hns) (fun D Hn h=> @q0h (topG g (D :: Ds)) _ _ _ _ _ _ _ (hdone D Hn h) hr) fun D i ex Hn hi hX=> ?_
 · exact @q0h (pinG g L2) _ _ _ _ _ _ _ hΦ ⟨b,[],rfl,hb,rfl⟩
 have h:=hstop D i ex Hn hi hX;cases ex with
 |normal=>exact h.elim
 |pan s=>exact h.elim
 |ret=>exact h
 |exit id=>
  obtain ⟨k',hk',hs⟩:=h;obtain ⟨r',hr',hrel⟩:=q2J hr hk'
  exact ⟨r',hr', @q0h (topG g (D :: Ds)) _ _ _ _ _ _ _ hs hrel⟩) rfl
theorem z4w{gop:Operand}{ps:Array Tmp}{asg body:IC}{f:FuncId}{fi ca:List SV}{N:Nat}{vw:Nat→Nat→List SV→List SObj→Prop}(Hs:Nat→List SObj→Prop)(X:Nat→Ex→List SObj→Prop)
 (hgop:evT t gop= .fn f fi ca)(hfi:SV.cleanL fi=true)(hca:SV.cleanL ca=true)(hit:Iter P f fi ca N vw)(hlen:∀i n args' new,vw i n args' new→args'.length=ps.size)(h0:Hs 0 H)(hns:noStopI k=true)
 (hround:∀i Hi args' new,i<N→Hs i Hi→vw i Hi.length args' new→∀L1 L2, @SoundI (pinG g L1) P (fun _ _ _=>False)
  ⟨(Hi++new).length,[.ic asg,.stop fun t' H'=> @SoundI (pinG g L2) P (RQ Hs X i) ⟨H'.length,[.ic body],t',H'⟩],putL ps.toList args' t,Hi++new⟩)
 (hdone:∀D Hn,Hs N Hn→ @SoundI (topG g (D :: Ds)) P AQ ⟨k0,k,t,Hn⟩)(hstop:∀D i ex Hn,i<N→X i ex Hn→RfStopI g P AQ k0 k t (D :: Ds) ex Hn):
 @SoundI (topG g Ds) P AQ ⟨k0,.ic (.rf gop ps asg body) :: k,t,H⟩:=
 j0e (inf:=False) Hs X hgop hfi hca hit.toI (fun h=>h.elim) hlen h0 hns hround hdone hstop
theorem z9A{B N:Nat}{J:Nat→(Nat→Prop)→World→(Nat→Prop)→Prop}{T:List SObj}{c:IC}(hJ:FJ B J)(hno:∀S w I,¬J N S w I): @SoundI (topG (yFG hJ) Ds) P AQ ⟨k0,.ic c :: k,t,.mark N :: T⟩:= @q0f (topG (yFG hJ) Ds) P AQ k0 t _ _ (fun td' _ E r n C a h0 hd=>by
 obtain ⟨_,_,⟨S0,hc⟩,_⟩:=hd.defs;obtain ⟨m,h1,h2⟩:=hc.st;have e:m=N:=by simpa using h1.symm
 exact (hno _ _ _ (e▸h2)).elim) rfl

theorem q1W{l B N:Nat}{J:Nat→(Nat→Prop)→World→(Nat→Prop)→Prop}{vw:Nat→Nat→List SV→List SObj→Prop}{i:Nat}{T:List SObj}(T':List SObj){args:List SV}{d:Option Tmp}
 (hJ:FJ B J)(yg:YG P l B N J vw)(hi:i<N)(hh:∀n,∃args' new,vw i n args' new∧Hand n (.mark i :: T) (.mark i :: T') args args' new)
 (hk:∀b:Bool, @SoundI (topG (yFG hJ) Ds) P AQ ⟨k0,k,putT t d (.raw (.bool b)),.mark (if b then i+1 else N+1+i) :: T'⟩): @YldI (topG (yFG hJ) Ds) P AQ l args d ⟨k0,k,t,.mark i :: T⟩:=z3j hJ yg hi hh hk
def RoundM(T:List SObj)(f:Nat→Nat)(S:Nat→List SV)(n:Nat)(p:Nat→Prop)(i:Nat):List SV→List SObj→Prop:=
 fun t' H'=>i<n∧p (i+1)∧(∃G,H'= .mark (f (i+1)) :: T++G)∧leM t' (S (i+1))
theorem z1g[Ghost]{P:Program}{k:List It}(c:Code)(T:List SObj)(f:Nat→Nat)(S:Nat→List SV)(n:Nat)(p:Nat→Prop)(h₀:p 0)(hs:leM t (S 0))(hk:k0≤T.length+1)(hb:SV.belL (T.length+1) t=true→∀i,SV.belL (T.length+1) (S i)=true)
 (round:∀i,i≤n→p i→Sound P AQ ⟨k0,.code c :: .stop (RoundM T f S n p i) :: k,S i,.mark (f i) :: T⟩):Sound P AQ ⟨k0,.code (.loop c) :: k,t,.mark (f 0) :: T⟩:=fun E r m C a h0 hd=>by
 have hbt:∀i,SV.belL (T.length+1) (S i)=true:=hb (by have:=q1J hd.tmps;rwa [hd.wd.n] at this)
 have hbh:belH (T.length+1) T=true:=q7c fun h o ho=>by have:=q5i (hd.wd.obj (h+1) o (by simpa using ho));rwa [hd.wd.n] at this
 simp only [wpT];refine q0N (fun m a w=>∃i,i≤n∧p i∧n-i=m∧∃C,C.w=w∧Den E C (S i) (.mark (f i) :: T) a) n ⟨0,Ai _,h₀,rfl,C,rfl,hd.wd,hd.ext,hd.defs,q3o (q3v hs) hd.tmps⟩ ?_;rintro m' a w ⟨i,hi,hp,rfl,C,rfl,hd⟩;have h1:=round i hi hp E r m C a h0 hd;simp only [wpT] at h1;refine wpIn_mono h1 fun e a w hq=> ?_;cases e with
 |normal=>
  obtain ⟨C',t',H',⟨hlt,hp',⟨G,rfl⟩,hS⟩,rfl,hd'⟩:=hq;refine ⟨n- (i+1),by omega,i+1,hlt,hp',rfl,C'.ren (fun h=>h) (T.length+1),rfl,?_⟩
  exact q9M (H':=.mark (f (i+1)) :: T) h0.1 hd' (q6s hS) (hbt _) (fun h o ho _=>by rw [q1E,Ak (Af.1 ho).1];exact ho) (by simp only [belH,Am];exact ⟨rfl,hbh⟩) (fun _ _ _ _ _ _ _ _ e=>e) (fun _ _=>rfl) hk (fun _ hp hn=>by rw [Ak (by simp)] at hn;exact hn)
 |exit id=>simpa only [Exit.then,exitT] using hq
 |_=>exact hq
theorem q8t[Ghost]{c:IC}(T:List SObj)(f:Nat→Nat)(upd:Nat→List (Nat×SV))(n:Nat)(p:Nat→Prop)(h₀:p 0)(hH:H= .mark (f 0) :: T)(hk:k0≤T.length+1)(hu:∀i,((upd i).all fun x=>x.2.bel (T.length+1))=true)(hs:leM t (setMany (maskT c.wr t) (upd 0)))
 (round:∀i,i≤n→p i→SoundI P AQ ⟨k0,.ic c :: .stop (RoundM T f (fun i=>setMany (maskT c.wr t) (upd i)) n p i) :: k,setMany (maskT c.wr t) (upd i),.mark (f i) :: T⟩):
 SoundI P AQ ⟨k0,.ic (.loop c) :: k,t,H⟩:=q0f (fun td' hr=>by
 subst hH;obtain ⟨c',r,rfl,hc,hr⟩:=hr;obtain ⟨x,rfl,hx⟩:=q0E hc
 exact z1g x T f _ n _ h₀ hs hk (fun hb i=>q2S _ (hu i) (q2B _ hb)) (fun i hi hp=>q0h (round i hi hp) ⟨x,_,rfl,hx,r,rfl,hr⟩)) rfl

end Go.Sx
namespace Go.Sx
open Go

variable [Ghost] {P:Program} {AQ:Ex→List SV→List SObj→Prop} {k0:Nat} {k:List IT} {k':List It} {t:List SV} {H:List SObj}
variable {all:Array Oper} {G:List Nat} {o:Oper} {ev:Operand→SV} {K:Out→List SObj→Prop}

def borrowC(h:Nat)(args:List SV)(H:List SObj)(args':List SV):Prop:=match H[h]? with
 |some (.row t xs)=>xs.length≤1125899906842624∧SV.frzObL h t xs args∧SV.frzL h t xs args=args'
 |_=>False
theorem z0B{f:FuncId}{args args':List SV}{v:Value}(h:Nat)(hb:borrowC h args H args')(hc:SV.cleanL args'=true)(hp:PC P f args' (.raw v))(hk:K (.ret (.raw v)) H):VCallG P f args H K:=by
 unfold borrowC at hb;split at hb
 · rename_i ty xs hH;obtain ⟨hlen,ho,rfl⟩:=hb;intro E C vs hw hg hv;obtain ⟨g1,g2⟩:=z0V hw hH;refine (hp.2 [] (fun o _=>o= .ret (.raw v)) rfl {C.frz h with n:=0} vs g1.nil (hg.1.tab.nil rfl fun b hb=>.inl hb) (q1c (C:=C.frz h) (C':={C.frz h with n:=0}) (Keeps.refl _ _) hc (q1Z hw hH hlen ho hv))).mono ?_
   rintro e w' ⟨o,H',C',rfl,rfl,hw',hx,u,rfl,hd⟩;rw [SV.den] at hd;obtain ⟨q1,q2⟩:=j1t (w':=C'.w) hw hx.size (fun b hb=>hx.frame b hb fun ⟨i,o,ho,_⟩=>by simp at ho) hx.os hx.tape hx.output
   exact ⟨.ret (.raw v),H,{C with w:=C'.w},hk,rfl,q1,.of q2,u,rfl,by rw [SV.den];exact hd⟩
 exact hb.elim
theorem q9w{f:FuncId}{args args':List SV}{v:Value}{d:Option Tmp}{m:IM}(h:Nat)(hb:borrowC h args m.heap args')(hc:SV.cleanL args'=true)(hp:PC P f args' (.raw v))(hk:SoundI P AQ {m with tmps:=putT m.tmps d (.raw v)}):CallR P AQ G f args d m:=
 ⟨hp.1,z0B h hb hc hp ⟨fun _=>SameG.refl _ _,hk⟩⟩
def atOp(P:Program)(all:Array Oper)(i:Nat):Option OpI:=(all[i]?).bind (compO P all)
theorem q6J{i:Nat}{io:OpI}(h:atOp P all i=some io):∃o,all[i]?=some o∧compO P all o=some io:=by
 unfold atOp at h;cases ho:all[i]? with
 |none=>rw [ho] at h;cases h
 |some o=>rw [ho] at h;exact ⟨o,rfl,h⟩
theorem j4k{i n:Nat}{listed:Array Bool}{io:OpI}{p:Prop}{s:SV}(hc:atOp P all i=some io)(hB:(planChk all listed i true&& ldChk all listed i&& io.guard.isNone)=true)(hf:floatOk G (evT t) io.op=true)(he:io.op.ev H (evT t)= .val p s)(hp:p)
 (h:AnyV P AQ k0 k' all G n (listed.setIfInBounds i true) (putT t io.dst s) H):AnyV P AQ k0 k' all G (n+1) listed t H:=by
 obtain ⟨o,ho,hco⟩:=q6J hc;simp only [Am,BR] at hB;refine q8S ho hco ((q0o hco).1 hB.2) hf he hp (fun _=>.inl hB.1.2) hB.1.1 ?_;rw [← (q0x hco).2];exact h
theorem j3j{i n:Nat}{listed:Array Bool}{io:OpI}{p:Prop}{s:SV}(hc:atOp P all i=some io)(hB:(planChk all listed i true&& io.guard.isNone)=true)(he:∀H',io.op.ev H' (evT t)= .val p s)(hp:p)
 (h:AnyV P AQ k0 k' all G n (listed.setIfInBounds i true) (putT t io.dst s) H):AnyV P AQ k0 k' all G (n+1) listed t H:=by
 obtain ⟨o,ho,hco⟩:=q6J hc;simp only [Am,BR] at hB;refine q2q (q1h hB.1).1 ho (.inl ⟨(q0o hco).1 hB.2,fun H' _ K hk=>q1K (q0x hco).1 (by rw [he H'];exact ⟨hp,hk⟩)⟩) ?_
 rw [← (q0x hco).2];exact h
theorem j2v{i n:Nat}{listed:Array Bool}{io:OpI}{f:FuncId}{args:List SV}{s:SV}(hc:atOp P all i=some io)(hB:(planChk all listed i true&& io.guard.isNone)=true)(he:∀H',io.op.ev H' (evT t)= .call f args)(hf:enters P f=true)
 (hcall:∀ (H':List SObj) (K:Out→List SObj→Prop),K (.ret s) H'→VCallG P f args H' K)(h:AnyV P AQ k0 k' all G n (listed.setIfInBounds i true) (putT t io.dst s) H):AnyV P AQ k0 k' all G (n+1) listed t H:=by
 obtain ⟨o,ho,hco⟩:=q6J hc;simp only [Am,BR] at hB;refine q2q (q1h hB.1).1 ho (.inl ⟨(q0o hco).1 hB.2,fun H' _ K hk=>q1K (q0x hco).1 (by rw [he H'];exact ⟨hf,hcall H' K hk⟩)⟩) ?_
 rw [← (q0x hco).2];exact h
theorem q4h{n:Nat}{listed:Array Bool}{l:List (Bool×OpI)}(hpl:planL P all n listed=some l)(hr:RelT P k k')(h:SoundI P AQ ⟨k0,.dops G l :: k,t,H⟩):AnyV P AQ k0 k' all G n listed t H:=h all listed n k' hpl hr
theorem z2L{id m:Nat}(hm:P.follows .mixedOrders=true)(hs:all.size=m)(h:AnyV P AQ k0 k' all G m (Array.replicate m false) t H):Sound P AQ ⟨k0,.code (.region id all true) :: k',t,H⟩:=q7Y G hm (by rw [hs];exact h)

end Go.Sx
namespace Go.Sx
open Go

variable [Ghost] {P:Program} {AQ:Ex→List SV→List SObj→Prop} {k0:Nat} {k:List IT} {k':List It} {t:List SV} {H:List SObj}
variable {all:Array Oper} {G:List Nat} {o:Oper}

def AnyK(P:Program)(AQ:Ex→List SV→List SObj→Prop)(k0:Nat)(k':List It)(all:Array Oper)(G:List Nat)(n:Nat)(listed:Array Bool)(t:List SV)(H:List SObj)(i:Nat)(d:Option Tmp):Out→List SObj→Prop
 |.ret s,H'=>SameG (gsel all i G) H H'∧AnyV P AQ k0 k' all G n (listed.setIfInBounds i true) (putT t d s) H'
 |.pan s,H'=>AQ (.pan s) [] H'
theorem q9D{i j n:Nat}{listed:Array Bool}{io jo:OpI}(hci:atOp P all i=some io)(hcj:atOp P all j=some jo)(hB:(Region.ready .any all listed== [i,j] && io.guard.isNone&& jo.guard.isNone)=true)
 (hi:(io.op.ev H (evT t)).to P H (AnyK P AQ k0 k' all G n listed t H i io.dst))(hj:(jo.op.ev H (evT t)).to P H (AnyK P AQ k0 k' all G n listed t H j jo.dst)):AnyV P AQ k0 k' all G (n+1) listed t H:=by
 obtain ⟨oi,hoi,hcoi⟩:=q6J hci;obtain ⟨oj,hoj,hcoj⟩:=q6J hcj;simp only [Am,BR,beq_iff_eq] at hB;refine ⟨fun h0=>(by rw [hB.1.1] at h0;cases h0),fun m hm=> ?_⟩
 rw [hB.1.1] at hm;have hK:∀ {x:Nat} {ox:Oper} {xo:OpI},compO P all ox=some xo→xo.dst=ox.dst→(xo.op.ev H (evT t)).to P H (AnyK P AQ k0 k' all G n listed t H x xo.dst)→OpV P ox (evT t) H fun
  |.ret s,H'=>SameG (gsel all x G) H H'∧AnyV P AQ k0 k' all G n (listed.setIfInBounds x true) (putT t ox.dst s) H'
  |.pan s,H'=>AQ (.pan s) [] H':=fun {x ox xo} hc hd h=>by
  rw [hd] at h;exact q1K (q0x hc).1 h
 rcases Bm.1 hm with rfl|hm
 · exact ⟨oi,hoi,.inl ⟨(q0o hcoi).1 hB.1.2,hK hcoi (q0x hcoi).2 hi⟩⟩
 obtain rfl:m=j:=by simpa using hm
 exact ⟨oj,hoj,.inl ⟨(q0o hcoj).1 hB.2,hK hcoj (q0x hcoj).2 hj⟩⟩
theorem j0X{i n:Nat}{listed:Array Bool}{d:Option Tmp}{f:FuncId}{args:List SV}{ty:Ty}{xs:List ty.den}(hp:VC P f args [] (RowK ty xs))(hb:SV.belL 0 args=true)(hargs:args=SV.renL (sig [] H.length) args)(hne:xs≠ [])(hG:SameG (gsel all i G) H (H++ [.row ty xs]))
 (h:AnyV P AQ k0 k' all G n (listed.setIfInBounds i true) (putT t d (.bld H.length ty xs.length)) (H++ [.row ty xs])):enters P f=true∧VCallG P f args H (AnyK P AQ k0 k' all G n listed t H i d):=by
 refine ⟨hp.1,VCall.g ?_⟩;rw [hargs];refine VCall.fr (H0:=[]) [] (by simp) trivial hb rfl hp.2 ?_
 rintro o H' _ (⟨e,rfl,rfl⟩ | ⟨rfl,rfl⟩)
 · exact absurd e hne
 exact ⟨hG,h⟩
theorem z8c{all:Array Oper}{i:Nat}:gsel all i []= []:=by
 unfold gsel;split
 · split<;>rfl
 rfl
theorem q1S{all:Array Oper}{i:Nat}{H H':List SObj}:SameG (gsel all i []) H H':=fun x h=>by rw [z8c] at h;cases h
theorem z9d{f:FuncId}{args:List SV}{K:Out→List SObj→Prop}(h:Nat)(hc:handC h args H fun args' H'=>VCG P f args' H' K):VCG P f args H K:=by
 unfold handC at hc;split at hc
 · rename_i t xs hH;exact ⟨hc.2.2.1,VCallG.hand h hH hc.1 hc.2.1 hc.2.2.2⟩
 exact hc.elim
theorem z8U{f:FuncId}{args:List SV}{s:SV}{K:Out→List SObj→Prop}(hp:PC P f args s)(hk:K (.ret s) H):VCG P f args H K:=⟨hp.1,(hp.2 H K hk).g⟩
end Go.Sx
namespace Go.Sx
open Go

variable [Ghost] {P:Program} {AQ:Ex→List SV→List SObj→Prop} {k0:Nat} {k:List IT} {t:List SV} {H:List SObj}

theorem q3e{ι:Type}{c:IC}(ws:List Nat)(upd:ι→List (Nat×SV))(Hf:ι→List SObj)(μ:ι→Nat)(p:ι→Prop)(i₀:ι)(h₀:p i₀)(hs:∃σ,Le σ k0 t H (setMany (maskT ws (maskT c.wr t)) (upd i₀)) (Hf i₀))
 (round:∀i,p i→SoundI P AQ ⟨k0,.ic c :: .stop (RoundK k0 (fun i=>(setMany (maskT ws (maskT c.wr t)) (upd i),Hf i)) μ p i) :: k,setMany (maskT ws (maskT c.wr t)) (upd i),Hf i⟩):SoundI P AQ ⟨k0,.ic (.loop c) :: k,t,H⟩:=
 j2S (fun i=>(setMany (maskT ws (maskT c.wr t)) (upd i),Hf i)) μ p i₀ h₀ hs round
theorem roundR{ι:Type}{S:ι→List SV×List SObj}{μ:ι→Nat}{p:ι→Prop}{i:ι}{t':List SV}{H':List SObj}(σ:Nat→Nat)(j:ι)(hj:p j)(hl:μ j<μ i)(h1:leT σ t' (S j).1)(h2:leH σ H' 0 (S j).2)(h3:SV.belL (S j).2.length (S j).1=true)(h4:belH (S j).2.length (S j).2=true)(h5:injH σ 0 (S j).2 []=true):RoundK 0 S μ p i t' H':=
 ⟨j,hj,hl,σ,h1,h2,h3,h4,h5,rfl,Ai _,fun _ h0=>absurd h0 (A5 0)⟩
theorem le0{σ:Nat→Nat}{t t':List SV}{H H':List SObj}(h1:leT σ t t')(h2:leH σ H 0 H')(h3:SV.belL H'.length t'=true)(h4:belH H'.length H'=true)(h5:injH σ 0 H' []=true):∃σ,Le σ 0 t H t' H':=
 ⟨σ,h1,h2,h3,h4,h5,rfl,Ai _,fun _ h0=>absurd h0 (A5 0)⟩
end Go.Sx
/- AES: the reference's round keys. -/
namespace Go.Proofs.YtikapabgggphpaaGreatDoor
open Go Go.Sx Go.Proofs
set_option maxRecDepth 100000
set_option maxHeartbeats 40000000

def subS(b:UInt8):UInt8:=(dat_ref06_substitutes:List UInt8).getD b.toNat 0
def lastS(w:List UInt8)(p:UInt8)(i:Nat):List UInt8:=
 if i%4=0 then [subS (w.getD (4*i-3) 0) ^^^ p,subS (w.getD (4*i-2) 0),subS (w.getD (4*i-1) 0),subS (w.getD (4*i-4) 0)]
 else [w.getD (4*i-4) 0,w.getD (4*i-3) 0,w.getD (4*i-2) 0,w.getD (4*i-1) 0]
def addL(w l:List UInt8)(i k:Nat):List UInt8:=w++(List.range k).map fun k=>w.getD (4*i-16+k) 0^^^ l.getD k 0
def wkS(key:List UInt8):Nat→List UInt8×UInt8
 |0=>(key,1)
 |n+1=>(addL (wkS key n).1 (lastS (wkS key n).1 (wkS key n).2 (n+4)) (n+4) 4,if (n+4)%4=0 then dblS (wkS key n).2 else (wkS key n).2)
def wordsS(key:List UInt8):List UInt8:=(wkS key 40).1
theorem q9q(key:List UInt8)(hk:key.length=16)(n:Nat):(wkS key n).1.length=16+4*n:=by
 induction n with
 |zero=>exact hk
 |succ n ih=>rw [wkS];simp only [addL,Ad,ih,A1,Be];omega
theorem q2Q(key:List UInt8)(hk:key.length=16):(wordsS key).length=176:=q9q key hk 40
theorem u8in(c:UInt8):0≤(c.toNat:Int)∧c.toNat<256:=⟨by omega,c.toNat_lt⟩
section
variable {AQ:Ex→List SV→List SObj→Prop}
theorem q5W[Ghost](c:UInt8){d:Option Tmp}{m:IM}(hk:SoundI Tryz.prog AQ {m with tmps:=putT m.tmps d (.raw (.int .u8 (subS c).toNat))}):ZldF Tryz.prog AQ none 0 c.toNat d m:=
 ⟨.raw (.int .u8 (subS c).toNat),fun _ _ _ _ hi=>.inr ⟨.u8,subS c,by
  have:=(hi.1.tab.dat (0,(⟨.arr 256 .u8,dat_ref06_substitutes⟩:Sigma Ty.den)) (by unfold datList;repeat (first|exact .head _|apply List.Mem.tail))).2.elem (e:=.u8) rfl (i:=c.toNat) c.toNat_lt
  rw [Ac] at this
  exact this,rfl,.inl rfl⟩,hk⟩
end
theorem j2O(key:List UInt8)(hk:key.length=16):PC Tryz.prog 111 [.isl .u8 key] (.isl .u8 (wordsS key)):=by
 refine q0i rfl rfl ?_;refine rQ fi111 ?_;refine ⟨by omega,?_⟩
 rw [hk];refine q3e (ι:=Nat) [8,10] (fun n=>[(3,.bld 0 .u8 (16+4*n)),(4,.raw (.int .u8 (wkS key n).2.toNat)),(5,rI (n+4:Nat))]) (fun n=>[.row .u8 (wkS key n).1]) (fun n=>40-n) (fun n=>n≤40) 0 (Ai _) ?_ ?_
 · refine le0 (σ:=fun _=>1) ?_ ?_ ?_ ?_ ?_
   · with_reducible refine sxE ?_
     exact ⟨rfl,rfl⟩
   · exact ⟨rfl,trivial⟩
   · kernel_rfl
   · kernel_rfl
   kernel_rfl
 intro n hn;have hl:=q9q key hk n;by_cases h:n<40
 · have f1:(((n+4:Nat):Int) <44)=True:=eq_true (by omega)
   have e1:IntKind.i64.wrap (4* ((n+4:Nat):Int))=((4* (n+4):Nat):Int):=by rw [wrapi (by omega)];omega
   have e2:IntKind.i64.wrap (((4* (n+4):Nat):Int) -4)=((4*n+12:Nat):Int):=by rw [wrapi (by omega)];omega
   have e3:(((n+4:Nat):Int)).tmod 4=(((n+4)%4:Nat):Int):=by
    rw [As (by omega)];omega
   have e4:IntKind.i64.wrap (((n+4)%4:Nat):Int)=(((n+4)%4:Nat):Int):=wrapi (by omega)
   have hstep:wkS key (n+1)=(addL (wkS key n).1 (lastS (wkS key n).1 (wkS key n).2 (n+4)) (n+4) 4,if (n+4)%4=0 then dblS (wkS key n).2 else (wkS key n).2):=rfl;generalize hw:(wkS key n).1=w at hl hstep⊢;generalize hp:(wkS key n).2=p at hstep⊢;have e5:4* (n+4) - (4*n+12)=4:=by omega
   obtain ⟨l,hL⟩:∃l,List.take 4 (List.drop (4*n+12) w)=l:=⟨_,rfl⟩;have hl4:l.length=4:=by rw [←hL,Aj,Al];omega
   by_cases h4:(n+4)%4=0
   · refine uQ 600 _ ?_;simp (maxSteps:=3000000) only [f1,e1,e2,e3,e4,e5,hw,hp,hL,hl4,hl,h4,Ac,Ay,go_sem,↓zA,↓reduceIte,↓reduceDIte] <;>try simp only [zB]
     repeat (with_reducible refine And.intro (by first|omega|decide|exact And.intro (by omega) (by omega)) ?_)
     refine ⟨u8in _,q5W _ ?_⟩;refine uQ 600 _ ?_;simp (maxSteps:=3000000) only [hl4,h4,Ac,Ay,xor8,go_sem,↓zA,↓reduceIte,↓reduceDIte] <;>try simp only [zB]
     repeat (with_reducible refine And.intro (by first|omega|decide|exact And.intro (by omega) (by omega)) ?_)
     refine ⟨u8in _,q5W _ ?_⟩;refine uQ 600 _ ?_;simp (maxSteps:=3000000) only [hl4,h4,Ac,Ay,xor8,go_sem,↓zA,↓reduceIte,↓reduceDIte] <;>try simp only [zB]
     repeat (with_reducible refine And.intro (by first|omega|decide|exact And.intro (by omega) (by omega)) ?_)
     refine ⟨u8in _,q5W _ ?_⟩;refine uQ 600 _ ?_;simp (maxSteps:=3000000) only [hl4,h4,Ac,Ay,xor8,go_sem,↓zA,↓reduceIte,↓reduceDIte] <;>try simp only [zB]
     repeat (with_reducible refine And.intro (by first|omega|decide|exact And.intro (by omega) (by omega)) ?_)
     refine ⟨u8in _,q5W _ ?_⟩;refine uQ 600 _ ?_;simp (maxSteps:=3000000) only [hl4,h4,Ac,Ay,xor8,AB,go_sem,↓zA,↓reduceIte,↓reduceDIte] <;>try simp only [zB]
     repeat (with_reducible refine And.intro (by first|omega|decide|exact And.intro (by omega) (by omega)) ?_)
     refine cQ (z1z p) ?_;have hla:lastS w p (n+4)= [subS (l.getD 1 0) ^^^ p,subS (l.getD 2 0),subS (l.getD 3 0),subS (l.getD 0 0)]:=by
      unfold lastS;rw [if_pos h4];have g:∀j,j<4→l.getD j 0=w.getD (4*n+12+j) 0:=fun j hj=>by
       rw [←hL];simp only [Aa,AH,AD];rw [if_pos hj]
      rw [g 1 (by omega),g 2 (by omega),g 3 (by omega),g 0 (by omega)]
      rfl
     rw [if_pos h4] at hstep;obtain ⟨q,hq⟩:∃q,dblS p=q:=⟨_,rfl⟩;rw [hq] at hstep;rw [show [subS (l.getD 1 Ty.u8.dflt) ^^^ p,subS (l.getD 2 Ty.u8.dflt),subS (l.getD 3 Ty.u8.dflt),subS (l.getD 0 Ty.u8.dflt)]=lastS w p (n+4) from hla.symm,hq]
     have hll:(lastS w p (n+4)).length=4:=by rw [hla];first|rfl|exact hl4
     generalize hlae:lastS w p (n+4)=la at*;refine q3e (ι:=Nat) [15,16,17,18,19,20,21,22,23,24,25,26,27,28,29,30,31,32,33,34,35,36,37,38,39,40,41,42,43,44,45,46,47,48,49,50,51] (fun k=>[(3,.bld 1 .u8 (16+4*n+k)),(6,.bld 0 .u8 4),(7,rI (k:Nat))]) (fun k=>[.row .u8 la,.row .u8 (addL w la (n+4) k)]) (fun k=>4-k) (fun k=>k≤4) 0 (Ai _) (le0 (σ:=fun h=>if h=0 then 3 else 0) ?_ ?_ ?_ ?_ ?_) ?_
     · with_reducible refine sxE ?_
       rfl
     · exact ⟨rfl,congrArg (fun x=>some (SObj.row .u8 x)) (by simp [addL]),trivial⟩
     · kernel_rfl
     · kernel_rfl
     · kernel_rfl
     intro k hk';have hwr:=wsx k (by omega)
     have hal:(addL w la (n+4) k).length=16+4*n+k:=by simp [addL,hl]
     have htk:List.take (16+4*n+k) (addL w la (n+4) k)=addL w la (n+4) k:=Ab (by omega)
     by_cases h3:k<4
     · have f3:((k:Int) <4)=True:=eq_true (by omega)
       have e6:IntKind.i64.wrap (((4* (n+4):Nat):Int) -16)=((4*n:Nat):Int):=by rw [wrapi (by omega)];omega
       have e7:IntKind.i64.wrap (((4*n:Nat):Int)+ (k:Int))=((4*n+k:Nat):Int):=by rw [wrapi (by omega)];omega
       have hgw:(addL w la (n+4) k).getD (4*n+k) 0=w.getD (4*n+k) 0:=by
        simp only [addL,Aa];rw [Ak (by omega)]
       refine uQ 600 _ ?_;simp (maxSteps:=3000000) only [f3,e1,e6,e7,hal,htk,hgw,hll,xor8,AB,Aq,Ac,Ty.dflt,go_sem,↓zA,↓reduceIte,↓reduceDIte] <;>try simp only [zB]
       repeat (with_reducible refine And.intro (by first|omega|decide|exact And.intro (by omega) (by omega)) ?_)
       refine roundR (fun h=>if h=0 then 0 else 3) (k+1) (by omega) (by omega) ?_ ?_ ?_ ?_ ?_
       · with_reducible refine sx1 hwr ?_
         rfl
       · refine ⟨rfl,congrArg (fun x=>some (SObj.row .u8 x)) ?_,trivial⟩;show _=w++_;rw [BE,Bk,←List.append_assoc,show 4* (n+4) -16=4*n by omega]
         rfl
       · kernel_rfl
       · kernel_rfl
       kernel_rfl
     obtain rfl:k=4:=by omega
     have f3:(((4:Nat):Int) <4)=False:=eq_false (by omega)
     have hwr2:IntKind.i64.wrap (((n+4:Nat):Int)+1)=((n+1+4:Nat):Int):=by rw [wrapi (by omega)];omega
     refine gy1 f3 ?_;refine roundR (fun _=>1) (n+1) (by omega) (by omega) ?_ ?_ ?_ ?_ ?_
     · rw [hstep];with_reducible refine sx1 hwr2 ?_
       exact congrArg (SV.bld 1 .u8) (by omega)
     · rw [hstep];exact ⟨rfl,trivial⟩
     · kernel_rfl
     · kernel_rfl
     kernel_rfl
   have hn4:((((n+4)%4:Nat):Int)=0)=False:=eq_false (by omega)
   refine uQ 600 _ ?_;simp (maxSteps:=3000000) only [f1,e1,e2,e3,e4,e5,hw,hp,hL,hl4,hl,hn4,Ac,Ay,go_sem,↓zA,↓reduceIte,↓reduceDIte] <;>try simp only [zB]
   repeat (with_reducible refine And.intro (by first|omega|decide|exact And.intro (by omega) (by omega)) ?_)
   have hla:lastS w p (n+4)=l:=by
    unfold lastS;rw [if_neg h4];have g:∀j,j<4→l.getD j 0=w.getD (4*n+12+j) 0:=fun j hj=>by
     rw [←hL];simp only [Aa,AH,AD];rw [if_pos hj]
    rw [show w.getD (4* (n+4) -4) 0=l.getD 0 0 from (g 0 (by omega)).symm,show w.getD (4* (n+4) -3) 0=l.getD 1 0 from (g 1 (by omega)).symm,show w.getD (4* (n+4) -2) 0=l.getD 2 0 from (g 2 (by omega)).symm,show w.getD (4* (n+4) -1) 0=l.getD 3 0 from (g 3 (by omega)).symm]
    match l,hl4 with
    | [a,b,c,d],_=>rfl
   rw [if_neg h4] at hstep;rw [←hla];have hll:(lastS w p (n+4)).length=4:=by rw [hla];first|rfl|exact hl4
   generalize hlae:lastS w p (n+4)=la at*;refine q3e (ι:=Nat) [15,16,17,18,19,20,21,22,23,24,25,26] (fun k=>[(3,.bld 1 .u8 (16+4*n+k)),(6,.bld 0 .u8 4),(7,rI (k:Nat))]) (fun k=>[.row .u8 la,.row .u8 (addL w la (n+4) k)]) (fun k=>4-k) (fun k=>k≤4) 0 (Ai _) (le0 (σ:=fun h=>if h=0 then 2 else 0) ?_ ?_ ?_ ?_ ?_) ?_
   · with_reducible refine sxE ?_
     rfl
   · exact ⟨rfl,congrArg (fun x=>some (SObj.row .u8 x)) (by simp [addL]),trivial⟩
   · kernel_rfl
   · kernel_rfl
   · kernel_rfl
   intro k hk';have hwr:=wsx k (by omega)
   have hal:(addL w la (n+4) k).length=16+4*n+k:=by simp [addL,hl]
   have htk:List.take (16+4*n+k) (addL w la (n+4) k)=addL w la (n+4) k:=Ab (by omega)
   by_cases h3:k<4
   · have f3:((k:Int) <4)=True:=eq_true (by omega)
     have e6:IntKind.i64.wrap (((4* (n+4):Nat):Int) -16)=((4*n:Nat):Int):=by rw [wrapi (by omega)];omega
     have e7:IntKind.i64.wrap (((4*n:Nat):Int)+ (k:Int))=((4*n+k:Nat):Int):=by rw [wrapi (by omega)];omega
     have hgw:(addL w la (n+4) k).getD (4*n+k) 0=w.getD (4*n+k) 0:=by
      simp only [addL,Aa];rw [Ak (by omega)]
     refine uQ 600 _ ?_;simp (maxSteps:=3000000) only [f3,e1,e6,e7,hal,htk,hgw,hll,xor8,AB,Aq,Ac,Ty.dflt,go_sem,↓zA,↓reduceIte,↓reduceDIte] <;>try simp only [zB]
     repeat (with_reducible refine And.intro (by first|omega|decide|exact And.intro (by omega) (by omega)) ?_)
     refine roundR (fun h=>if h=0 then 0 else 3) (k+1) (by omega) (by omega) ?_ ?_ ?_ ?_ ?_
     · with_reducible refine sx1 hwr ?_
       rfl
     · refine ⟨rfl,congrArg (fun x=>some (SObj.row .u8 x)) ?_,trivial⟩;show _=w++_;rw [BE,Bk,←List.append_assoc,show 4* (n+4) -16=4*n by omega]
       rfl
     · kernel_rfl
     · kernel_rfl
     kernel_rfl
   obtain rfl:k=4:=by omega
   have f3:(((4:Nat):Int) <4)=False:=eq_false (by omega)
   have hwr2:IntKind.i64.wrap (((n+4:Nat):Int)+1)=((n+1+4:Nat):Int):=by rw [wrapi (by omega)];omega
   refine gy1 f3 ?_;refine roundR (fun _=>1) (n+1) (by omega) (by omega) ?_ ?_ ?_ ?_ ?_
   · rw [hstep];with_reducible refine sx1 hwr2 ?_
     exact congrArg (SV.bld 1 .u8) (by omega)
   · rw [hstep];exact ⟨rfl,trivial⟩
   · kernel_rfl
   · kernel_rfl
   kernel_rfl
 obtain rfl:n=40:=by omega
 have f1:(((40+4:Nat):Int) <44)=False:=eq_false (by omega)
 refine gy2 f1 hl ?_;rw [Ab (by omega)]
 rfl
end Go.Proofs.YtikapabgggphpaaGreatDoor

/- AES: the reference's encryption of a block. -/
namespace Go.Proofs.YtikapabgggphpaaGreatDoor
open Go Go.Sx Go.Proofs
set_option maxRecDepth 100000
set_option maxHeartbeats 40000000

def shfS(b:List UInt8):List UInt8:=fS fun i=>subS (b.getD (4* ((i / 4+i%4)%4)+i%4) 0)
def rndE(w:List UInt8)(r:Nat)(b:List UInt8):List UInt8:=addS (if r<10 then mixS (shfS b) [2,3,1,1] else shfS b) w r
def encA(w b:List UInt8):Nat→List UInt8
 |0=>addS b w 0
 |n+1=>rndE w (n+1) (encA w b n)
def encS(w b:List UInt8):List UInt8:=encA w b 10
theorem q8k(b w:List UInt8)(r:Nat):(addS b w r).length=16:=q1U _
theorem z8z(b f:List UInt8):(mixS b f).length=16:=q1U _
theorem q9k(w b:List UInt8)(n:Nat):(encA w b n).length=16:=by cases n<;>exact q8k _ _ _
theorem q3J(w b:List UInt8):(encS w b).length=16:=q9k _ _ _
section
variable {AQ:Ex→List SV→List SObj→Prop}
theorem z8C[Ghost](c:UInt8){d:Option Tmp}{m:IM}(hk:SoundI Tryz.prog AQ {m with tmps:=putT m.tmps d (.raw (.int .u8 (subS c).toNat))}):ZldI Tryz.prog AQ none 0 c.toNat d m:=
 z9x (n:=256) (e:=.u8) (xs:=dat_ref06_substitutes) (by unfold datList;repeat (first|exact .head _|apply List.Mem.tail)) rfl c.toNat_lt rfl hk
end
theorem j2y{P:Program}{f:FuncId}{a s:SV}{t:Ty}{x:t.den}(h:PC P f [a,.dat t x] s)(ho:t.ok x)(hkn:t.known=true:=by rfl):PC P f [a,.agg (t.cells x)] s:=
 ⟨h.1,fun H K hk C vs hw ht hv=>h.2 H K hk C vs hw ht (by
  obtain ⟨v,vs',rfl,h1,h2⟩:=q0b.1 hv;obtain ⟨v2,vs2,rfl,h3,h4⟩:=q0b.1 h2;refine q0b.2 ⟨v,_,rfl,h1,q0b.2 ⟨v2,_,rfl,?_,h4⟩⟩;simp only [SV.den] at h3⊢;obtain ⟨us,rfl,hd⟩:=h3
  exact ⟨us,rfl,t.cells_rel _ _ hkn ho hd⟩)⟩
theorem j1s(b:List UInt8)(x0 x1 x2 x3:UInt8)(hb:b.length=16):PC Tryz.prog 136 [.isl .u8 b,.agg [.raw (.int .u8 x0.toNat),.raw (.int .u8 x1.toNat),.raw (.int .u8 x2.toNat),.raw (.int .u8 x3.toNat)]] (.isl .u8 (mixS b [x0,x1,x2,x3])):=
 j2y (t:=.arr 4 .u8) (x:=[x0,x1,x2,x3]) (j3w b [x0,x1,x2,x3] hb rfl) ⟨rfl,fun _ _=>trivial⟩
end Go.Proofs.YtikapabgggphpaaGreatDoor

/- AES: the reference's decryption of a block. -/
namespace Go.Proofs.YtikapabgggphpaaGreatDoor
open Go Go.Sx Go.Proofs
set_option maxRecDepth 100000
set_option maxHeartbeats 40000000

def invP:Nat→List UInt8
 |0=>List.replicate 256 0
 |n+1=>(invP n).set (subS (UInt8.ofNat n)).toNat (UInt8.ofNat n)
def invS(c:UInt8):UInt8:=(invP 256).getD c.toNat 0
theorem q8T(n:Nat):(invP n).length=256:=by
 induction n with
 |zero=>rfl
 |succ n ih=>rw [invP,Bb,ih]
def srcU(j:Nat):Nat:=4* ((j / 4+4-j%4)%4)+j%4
def uP(g:Nat→UInt8)(n:Nat):List UInt8:=(List.range 16).map fun j=>if srcU j<n then g j else 0
theorem j0f(g:Nat→UInt8)(n:Nat):(uP g n).length=16:=by simp [uP]
theorem z7x(g:Nat→UInt8):uP g 0=List.replicate 16 0:=by
 unfold uP;rw [BH];refine ⟨by rw [A1,Be],fun x hx=> ?_⟩
 obtain ⟨j,_,rfl⟩:=Bu.1 hx;exact if_neg (Bp _)
theorem j0z(g:Nat→UInt8):uP g 16=fS g:=by
 unfold uP fS;refine Bg fun i hi=>if_pos ?_;have:=Bw.1 hi;unfold srcU;omega
theorem j0j(g:Nat→UInt8){c r:Nat}(hc:c<4)(hr:r<4):(uP g (4*c+r)).set (4* ((c+r)%4)+r) (g (4* ((c+r)%4)+r))=uP g (4*c+ (r+1)):=by
 apply Au
 · simp [uP]
 intro j h1 h2;have hj:j<16:=by simpa [uP] using h2
 rw [A4];simp only [uP,AC,Ax];split
 · subst_vars
   rw [if_pos];unfold srcU;omega
 rename_i hne;have:srcU j≠4*c+r:=by unfold srcU;omega
 by_cases hj:srcU j<4*c+r
 · rw [if_pos hj,if_pos (by omega)]
 rw [if_neg hj,if_neg (by omega)]
def unsS(b:List UInt8):List UInt8:=fS fun j=>invS (b.getD (srcU j) 0)
def mixD(r:Nat)(b:List UInt8):List UInt8:=if r<10 then mixS b [14,11,13,9] else b
def rndD(w:List UInt8)(r:Nat)(b:List UInt8):List UInt8:=unsS (mixD r (addS b w r))
def decA(w b:List UInt8):Nat→List UInt8
 |0=>b
 |n+1=>rndD w (10-n) (decA w b n)
def decS(w b:List UInt8):List UInt8:=addS (decA w b 10) w 0
theorem z2K(w b:List UInt8)(hb:b.length=16)(n:Nat):(decA w b n).length=16:=by
 cases n with
 |zero=>exact hb
 |succ n=>exact q1U _
theorem q2r(w b:List UInt8):(decS w b).length=16:=q8k _ _ _
theorem z9P(r:Nat)(b:List UInt8)(hb:b.length=16):(mixD r b).length=16:=by
 unfold mixD;split
 · exact z8z _ _
 exact hb
section
variable {AQ:Ex→List SV→List SObj→Prop}
theorem z6x[Ghost]{i:Nat}(hi:i<256){d:Option Tmp}{m:IM}(hk:SoundI Tryz.prog AQ {m with tmps:=putT m.tmps d (.raw (.int .u8 (subS (UInt8.ofNat i)).toNat))}):ZldI Tryz.prog AQ none 0 i d m:=by
 have h:=z8C (UInt8.ofNat i) hk;rwa [show (UInt8.ofNat i).toNat=i by rw [Bx];omega] at h
end
theorem q4U(w b:List UInt8)(hb:b.length=16)(hw:w.length=176):PC Tryz.prog 113 [.isl .u8 w,.isl .u8 b] (.isl .u8 (decS w b)):=by
 refine q0i rfl rfl ?_;refine rQ fi113 ?_;refine q0d (ι:=Nat) (fun i=>[(6,rI i)]) (fun i=>[.row .u8 (invP i)]) (fun i=>256-i) (fun i=>i≤256) 0 (Ai _) (by first|rfl|kernel_rfl) ?_ ?_
 · with_reducible refine sxE ?_;trivial
 intro i hi;have hwr:=wsx i (by omega)
 have hil:=q8T i;by_cases h:i<256
 · have f1:((i:Int) <256)=True:=eq_true (by omega)
   have hun:(UInt8.ofNat i).toNat=i:=by rw [Bx];omega
   have hu8:IntKind.u8.wrap (i:Int)=((UInt8.ofNat i).toNat:Int):=by rw [u8wrapR,hun];omega
   refine gy3 f1 Ac Ay ?_;refine ⟨by omega,z6x h ?_⟩
   refine uQ 600 _ ?_;simp (maxSteps:=3000000) only [hil,hu8,AB,Aq,Ac,Ay,go_sem,↓zA,↓reduceIte,↓reduceDIte] <;>try simp only [zB]
   have hub:=u8in (subS (UInt8.ofNat i));repeat (with_reducible refine And.intro (by first|omega|decide|exact And.intro (by omega) (by omega)) ?_)
   refine ⟨i+1,h,by dsimp only;omega,?_,?_⟩
   · dsimp only;rw [invP]
   with_reducible refine sx1 hwr ?_;trivial
 obtain rfl:i=256:=by omega
 have f1:(((256:Nat):Int) <256)=False:=eq_false (by omega)
 refine gy1 f1 ?_;obtain ⟨iv,hiv⟩:∃iv,invP 256=iv:=⟨_,rfl⟩;have hinv:∀c:UInt8,iv.getD c.toNat 0=invS c:=fun c=>by rw [←hiv];rfl
 rw [hiv] at hil⊢;refine q3e (ι:=Nat) [] (fun n=>[(7,.isl .u8 (decA w b n)),(8,rI (10-n:Int))]) (fun n=>[.row .u8 iv]) (fun n=>10-n) (fun n=>n≤10) 0 (Ai _) (le0 (σ:=fun h=>h) ?_ ?_ ?_ ?_ ?_) ?_
 · with_reducible refine sxE ?_
   first|exact ⟨rfl,rfl⟩ |rfl
 · exact ⟨rfl,trivial⟩
 · kernel_rfl
 · kernel_rfl
 · kernel_rfl
 intro n hn;have hel:=z2K w b hb n;by_cases h:n<10
 · have f1:((1:Int)≤10- (n:Int))=True:=eq_true (by omega)
   have hstep:decA w b (n+1)=rndD w (10-n) (decA w b n):=rfl;have hwr:IntKind.i64.wrap ((10- (n:Int)) -1)=10- ((n+1:Nat):Int):=by rw [wrapi (by omega)];omega
   generalize he:decA w b n=e at hel hstep⊢;have hadd:=j0y e w (10-n) hel (by omega) (by omega)
   rw [show rI (((10-n:Nat)):Int)=rI (10- (n:Int)) by congr 2;omega] at hadd
   refine gy1 f1 ?_;refine q0a hadd ?_;have hal:=q8k e w (10-n);have hml:=z9P (10-n) _ hal;by_cases h9:10-n<10
   · have f9:(10- (n:Int) <10)=True:=eq_true (by omega)
     have hmd:mixS (addS e w (10-n)) [14,11,13,9]=mixD (10-n) (addS e w (10-n)):=(if_pos h9).symm;refine gy1 f9 ?_;refine q0a (j1s _ 14 11 13 9 hal) ?_;rw [hmd];generalize hme:mixD (10-n) (addS e w (10-n))=m at*;obtain ⟨g,hg⟩:∃g:Nat→UInt8,g=fun j=>invS (m.getD (srcU j) 0):=⟨_,rfl⟩;refine gy1 f9 ?_;refine q0d (ι:=Nat) (fun i=>[(10,rI i)]) (fun i=>[.row .u8 iv,.row .u8 (uP g (4*i))]) (fun i=>4-i) (fun i=>i≤4) 0 (Ai _) (by rw [Cs,z7x];first|done|rfl) ?_ ?_
     · with_reducible refine sxE ?_;trivial
     intro c hc;have hwr1:=wsx c (by omega)
     by_cases h1:c<4
     · have f1:((c:Int) <4)=True:=eq_true (by omega)
       refine gy1 f1 ?_;refine q0d (ι:=Nat) (fun i=>[(11,rI i)]) (fun i=>[.row .u8 iv,.row .u8 (uP g (4*c+i))]) (fun i=>4-i) (fun i=>i≤4) 0 (Ai _) rfl ?_ ?_
       · with_reducible refine sxE ?_;trivial
       intro r hr;have hwr2:=wsx r (by omega)
       by_cases h2:r<4
       · have f2:((r:Int) <4)=True:=eq_true (by omega)
         have e1:IntKind.i64.wrap (4* (c:Int))=((4*c:Nat):Int):=by rw [wrapi (by omega)];omega
         have e2:IntKind.i64.wrap (((4*c:Nat):Int)+ (r:Int))=((4*c+r:Nat):Int):=by rw [wrapi (by omega)];omega
         have e3:IntKind.i64.wrap ((c:Int)+ (r:Int))=((c+r:Nat):Int):=by rw [wrapi (by omega)];omega
         have e4:(((c+r:Nat):Int)).tmod 4=(((c+r)%4:Nat):Int):=by
          rw [As (by omega)];omega
         have e5:IntKind.i64.wrap (((c+r)%4:Nat):Int)=(((c+r)%4:Nat):Int):=wrapi (by omega)
         have e6:IntKind.i64.wrap (4* (((c+r)%4:Nat):Int))=((4* ((c+r)%4):Nat):Int):=by rw [wrapi (by omega)];omega
         have e7:IntKind.i64.wrap (((4* ((c+r)%4):Nat):Int)+ (r:Int))=((4* ((c+r)%4)+r:Nat):Int):=by rw [wrapi (by omega)];omega
         have hpl:=j0f g (4*c+r);have hub:=u8in (m.getD (4*c+r) 0);refine uQ 600 _ ?_;simp (maxSteps:=3000000) only [f2,e1,e2,e3,e4,e5,e6,e7,hpl,hml,hil,hinv,AB,Aq,Ac,Ay,Ty.dflt,go_sem,↓zA,↓reduceIte,↓reduceDIte] <;>try simp only [zB]
         repeat (with_reducible refine And.intro (by first|omega|decide|exact And.intro (by omega) (by omega)) ?_)
         refine ⟨r+1,h2,by dsimp only;omega,?_,?_⟩
         · dsimp only;have hgg:invS (m.getD (4*c+r) 0)=g (4* ((c+r)%4)+r):=by
            rw [hg];dsimp only;rw [show srcU (4* ((c+r)%4)+r)=4*c+r by unfold srcU;omega]
           rw [hgg,j0j _ h1 h2]
         with_reducible refine sx1 hwr2 ?_;trivial
       obtain rfl:r=4:=by omega
       have f2:(((4:Nat):Int) <4)=False:=eq_false (by omega)
       refine gy1 f2 ?_;refine ⟨c+1,h1,by dsimp only;omega,rfl,?_⟩
       with_reducible refine sx1 hwr1 ?_;trivial
     obtain rfl:c=4:=by omega
     have f1:(((4:Nat):Int) <4)=False:=eq_false (by omega)
     have hsh:uP g (4*4)=unsS m:=by rw [show 4*4=16 from rfl,j0z,hg];rfl
     have hsl:(unsS m).length=16:=q1U _;have hre:rndD w (10-n) e=unsS m:=by unfold rndD;rw [hme]
     rw [hre] at hstep;rw [hsh];refine uQ 8 _ ?_;simp (maxSteps:=3000000) only [f1,go_sem,↓zA,↓reduceIte,↓reduceDIte] <;>try simp only [zB]
     refine q0X 1 rfl rfl (by rw [hsl];decide) ?_ ?_ ?_
     · with_reducible refine sxE ?_;trivial
     · with_reducible refine sxE ?_
       omega
     with_reducible refine sxE ?_
     rw [Ab (by omega)]
     refine gQ ?_;refine roundR (fun h=>h) (n+1) (by omega) (by omega) ?_ ?_ ?_ ?_ ?_
     · rw [hstep];with_reducible refine sx1 hwr ?_;trivial
     · exact ⟨rfl,trivial⟩
     · kernel_rfl
     · kernel_rfl
     kernel_rfl
   have f9:(10- (n:Int) <10)=False:=eq_false (by omega)
   have hmd:addS e w (10-n)=mixD (10-n) (addS e w (10-n)):=(if_neg h9).symm;rw [hmd];generalize hme:mixD (10-n) (addS e w (10-n))=m at*;obtain ⟨g,hg⟩:∃g:Nat→UInt8,g=fun j=>invS (m.getD (srcU j) 0):=⟨_,rfl⟩;refine gy1 f9 ?_;refine q0d (ι:=Nat) (fun i=>[(10,rI i)]) (fun i=>[.row .u8 iv,.row .u8 (uP g (4*i))]) (fun i=>4-i) (fun i=>i≤4) 0 (Ai _) (by rw [Cs,z7x];first|done|rfl) ?_ ?_
   · with_reducible refine sxE ?_;trivial
   intro c hc;have hwr1:=wsx c (by omega)
   by_cases h1:c<4
   · have f1:((c:Int) <4)=True:=eq_true (by omega)
     refine gy1 f1 ?_;refine q0d (ι:=Nat) (fun i=>[(11,rI i)]) (fun i=>[.row .u8 iv,.row .u8 (uP g (4*c+i))]) (fun i=>4-i) (fun i=>i≤4) 0 (Ai _) rfl ?_ ?_
     · with_reducible refine sxE ?_;trivial
     intro r hr;have hwr2:=wsx r (by omega)
     by_cases h2:r<4
     · have f2:((r:Int) <4)=True:=eq_true (by omega)
       have e1:IntKind.i64.wrap (4* (c:Int))=((4*c:Nat):Int):=by rw [wrapi (by omega)];omega
       have e2:IntKind.i64.wrap (((4*c:Nat):Int)+ (r:Int))=((4*c+r:Nat):Int):=by rw [wrapi (by omega)];omega
       have e3:IntKind.i64.wrap ((c:Int)+ (r:Int))=((c+r:Nat):Int):=by rw [wrapi (by omega)];omega
       have e4:(((c+r:Nat):Int)).tmod 4=(((c+r)%4:Nat):Int):=by
        rw [As (by omega)];omega
       have e5:IntKind.i64.wrap (((c+r)%4:Nat):Int)=(((c+r)%4:Nat):Int):=wrapi (by omega)
       have e6:IntKind.i64.wrap (4* (((c+r)%4:Nat):Int))=((4* ((c+r)%4):Nat):Int):=by rw [wrapi (by omega)];omega
       have e7:IntKind.i64.wrap (((4* ((c+r)%4):Nat):Int)+ (r:Int))=((4* ((c+r)%4)+r:Nat):Int):=by rw [wrapi (by omega)];omega
       have hpl:=j0f g (4*c+r);have hub:=u8in (m.getD (4*c+r) 0);refine uQ 600 _ ?_;simp (maxSteps:=3000000) only [f2,e1,e2,e3,e4,e5,e6,e7,hpl,hml,hil,hinv,AB,Aq,Ac,Ay,Ty.dflt,go_sem,↓zA,↓reduceIte,↓reduceDIte] <;>try simp only [zB]
       repeat (with_reducible refine And.intro (by first|omega|decide|exact And.intro (by omega) (by omega)) ?_)
       refine ⟨r+1,h2,by dsimp only;omega,?_,?_⟩
       · dsimp only;have hgg:invS (m.getD (4*c+r) 0)=g (4* ((c+r)%4)+r):=by
          rw [hg];dsimp only;rw [show srcU (4* ((c+r)%4)+r)=4*c+r by unfold srcU;omega]
         rw [hgg,j0j _ h1 h2]
       with_reducible refine sx1 hwr2 ?_;trivial
     obtain rfl:r=4:=by omega
     have f2:(((4:Nat):Int) <4)=False:=eq_false (by omega)
     refine gy1 f2 ?_;refine ⟨c+1,h1,by dsimp only;omega,rfl,?_⟩
     with_reducible refine sx1 hwr1 ?_;trivial
   obtain rfl:c=4:=by omega
   have f1:(((4:Nat):Int) <4)=False:=eq_false (by omega)
   have hsh:uP g (4*4)=unsS m:=by rw [show 4*4=16 from rfl,j0z,hg];rfl
   have hsl:(unsS m).length=16:=q1U _;have hre:rndD w (10-n) e=unsS m:=by unfold rndD;rw [hme]
   rw [hre] at hstep;rw [hsh];refine uQ 8 _ ?_;simp (maxSteps:=3000000) only [f1,go_sem,↓zA,↓reduceIte,↓reduceDIte] <;>try simp only [zB]
   refine q0X 1 rfl rfl (by rw [hsl];decide) ?_ ?_ ?_
   · with_reducible refine sxE ?_;trivial
   · with_reducible refine sxE ?_
     omega
   with_reducible refine sxE ?_
   rw [Ab (by omega)]
   refine gQ ?_;refine roundR (fun h=>h) (n+1) (by omega) (by omega) ?_ ?_ ?_ ?_ ?_
   · rw [hstep];with_reducible refine sx1 hwr ?_;trivial
   · exact ⟨rfl,trivial⟩
   · kernel_rfl
   · kernel_rfl
   kernel_rfl
 obtain rfl:n=10:=by omega
 have f1:((1:Int)≤10- ((10:Nat):Int))=False:=eq_false (by omega)
 refine gy1 f1 ?_;refine cQ (j0y _ w 0 hel (by omega) (by omega)) ?_
 rfl
end Go.Proofs.YtikapabgggphpaaGreatDoor

