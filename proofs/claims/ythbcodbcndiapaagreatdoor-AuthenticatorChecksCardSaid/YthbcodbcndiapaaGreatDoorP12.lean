/- A part of the proof: a symbolic executor over abstract values, and its soundness. -/
import Derived.Test.YthbcodbcndiapaaGreatDoorP11
set_option linter.all false
namespace Go.Sx
open Go

variable {P:Program} {AQ:Ex->List SV->List SObj->Prop} {k0:Nat} {k:List It} {t:List SV} {H:List SObj}
variable {g:FG} {E:EnD} {Ds:List Nat} {tms:List Value} {l:Nat} {o:Obj} {C C':Cx} {H':List SObj} {S S':Nat->Prop}

def calL(Ds:List Nat)(l:Nat)(o:Obj):List (Nat×Obj):=(l,o) :: Ds.map fun D=>(D,.deferred (some []))
def Cal.pins(h:Cal g E Ds t tms l o C H S):Pins (calL Ds l o) C H S:=by
 intro x hx;rcases Bm.1 hx with rfl|hx
 . exact ⟨h.limm,h.lown,fun hs=>absurd (g.lo h.core hs ⟨o,h.lat,h.lfar⟩) (AT.2 h.lsz),h.lat,h.lfar⟩
 obtain ⟨D,hD,rfl⟩:=By.1 hx;have m:=h.marks D hD;exact ⟨m.imm,m.own,fun hs=>absurd (g.lo h.core hs m.far) (AT.2 m.sz),m.at_,trivial⟩
theorem Cal.run(h:Cal g E Ds t tms l o C H S)(hx:Ext (startE g.um S C H).toEn C' H')(hw:Wd C' H')(hcore:g.core (startE g.um S C H) C' H' S')(hp:Pins (calL Ds l o) C' H' S'):Cal g E Ds t tms l o C' H' S':=by obtain ⟨q1,q2,q3,q4,q5⟩:=hp (l,o) (by simp [calL]);refine ⟨hw,q7K h.wd h.ext (fun b hb=>(g.perm h.core hb).1) (fun hu=>g.unm hu h.core) hx,g.back h.wd h.core hx hcore,q0h (q3f hx.evo) h.tmps,fun D hD=> ?_,h.lne,h.lsz,q1,q2,q4,q5,⟨(q5x h.wd.n h.tab.tab fun b hb=>g.nt h.core hb).next hx,h.tab.old⟩⟩;obtain ⟨p1,p2,p3,p4,p5⟩:=hp (D,.deferred (some [])) (by simp [calL];exact .inr hD);exact ⟨(h.marks D hD).sz,p1,p2,p4⟩

def RQ(Hs:Nat->List SObj->Prop)(X:Nat->Ex->List SObj->Prop)(i:Nat):Ex->List SV->List SObj->Prop
 |.normal,_,H'=>Hs (i+1) H'
 |.ret,_,H'=>X i .ret H'
 |.exit id,_,H'=>X i (.exit id) H'
 |.pan _,_,_=>False
structure RfOk (P:Program) (g:FG) (ps:Array Tmp) (assign body:Code) (t:List SV) (N:Nat) (vw:Nat->Nat->List SV->List SObj->Prop) (Hs:Nat->List SObj->Prop) (X:Nat->Ex->List SObj->Prop):Prop where
 len:∀i n args' new,vw i n args' new->args'.length=ps.size
 round:∀i Hi args' new,i<N->Hs i Hi->vw i Hi.length args' new->∀L1 L2,∃Φ,(∀t' H',Φ t' H'-> @Sound (pinG g L2) P (RQ Hs X i) ⟨H'.length,[.code body],t',H'⟩)∧
  @Sound (pinG g L1) P (fun _ _ _=>False) ⟨(Hi++new).length,[.code assign,.stop Φ],putL ps.toList args' t,Hi++new⟩
@[reducible] def rfRec(fn:FuncId)(us:Array Value)(ps:Array Tmp)(assign body:Code)(D:Nat)(st:LoopState)(pe:Option Code):Loop:={state:=st,pending:=pe,fn,tmps:=us,params:=ps,assign,body,defers:=D}

theorem z5H{ps:Array Tmp}{assign body:Code}{N B:Nat}{vw:Nat->Nat->List SV->List SObj->Prop}{Hs:Nat->List SObj->Prop}{X:Nat->Ex->List SObj->Prop}{fn:FuncId}{us:Array Value}{D:Nat}
 (hr:RfOk P g ps assign body t N vw Hs X)(hB:E.C.w.heap.size<=B):YG P l B N (rfJ g E Ds t us.toList l N Hs X (rfRec fn us ps assign body D)) vw:=by
 rintro i T T' args C S vs hi hw ⟨Cc,S0,Hm,o,e1,hI,hc,hS,hst⟩ hown hv hh;obtain ⟨hHs,rfl⟩:Hs i Hm∧o= .loop (rfRec fn us ps assign body D .ready none):=by
  rcases hst with ⟨_,h1,h2⟩ | ⟨i',_,_,h,_⟩
  . exact ⟨h1,h2⟩
  omega
 have hI':∀b,Cc.I b ↔ C.I b:=fun b=>(hI b).trans ⟨fun h=>h.1,fun h=>⟨h,hw.imm b h⟩⟩;obtain ⟨args',new,hvw,hhand⟩:=hh Hm.length;have hsep:∀b,OwnB C (.mark i :: T) b->¬calS Ds l Cc Hm S0 b:=fun b hb h=>(hown b hb).2 ((hS b).2 h);obtain ⟨C2,Cc2,a1,a2,a3,a4,a5,b1,b2,b3,b4,b5,b6⟩:=hhand C Cc Hm vs hw hv hc.wd rfl e1 hI' (fun b hb hcb=>hsep b hb (.inl hcb));have e2:Cc2.w=Cc.w:=b1.trans e1.symm;have hown2:∀b,OwnB Cc2 (Hm++new) b->OwnB Cc Hm b∨(E.C.w.heap.size<=b∧OwnB C (.mark i :: T) b∧¬OwnB C2 (.mark i :: T') b):=fun b hb=>orMap (b6 b hb) id fun h=>⟨As hB (hown b h.1).1,h⟩;have hc2:Cal g E Ds t us.toList l (.loop (rfRec fn us ps assign body D .ready none)) Cc2 (Hm++new) S0:=by
  refine ⟨b3,⟨hc.ext.evo.trans b4,by rw [e2];exact hc.ext.size,by rw [e2];exact hc.ext.os,by rw [e2];exact hc.ext.tape,by rw [e2];exact hc.ext.output,fun b h1 h2=>by rw [e2];exact hc.ext.frame b h1 h2,fun b hb=> ?_,fun b hb=> ?_,fun m h0 hm=>q5m (hc.ext.keep0 m h0 hm)⟩,?_,q0h b4 hc.tmps,fun D' hD=> ?_,hc.lne,hc.lsz,by rw [b2];exact hc.limm,fun ho=> ?_,by rw [e2];exact hc.lat,hc.lfar,⟨hc.tab.tab.keep b4.I fun b hT hb ho=>⟨by rw [e2];exact hb,fun x=>(hown2 b x).elim ho fun y=>absurd (hc.tab.old b hT) (AT.2 y.1),by rw [e2]⟩,hc.tab.old⟩⟩
  . rw [b2] at hb;rw [e2];exact hc.ext.immNew b hb
  . exact (hown2 b hb).elim (hc.ext.ownNew b) fun x=>.inl x.1
  . exact g.own hc.wd e2 (fun b h=>by rw [b2];exact h) (fun b h=>by rw [b2] at h;exact .inl h) (fun b hb=>orMap (hown2 b hb) id fun x=>⟨x.1,fun h=>hsep b x.2.1 (.inr (.inl h))⟩) (fun m _ hm=>q5m hm) (As hc.ext.evo.n b4.n) hc.core
  . have m:=hc.marks D' hD;exact ⟨m.sz,by rw [b2];exact m.imm,fun ho=>(hown2 D' ho).elim m.own fun x=>hsep D' x.2.1 (.inr (.inr (.inr hD))),by rw [e2];exact m.at_⟩
  exact (hown2 l ho).elim hc.lown fun x=>hsep l x.2.1 (.inr (.inr (.inl rfl)))
 have hn2:Cc2.n=(Hm++new).length:=b3.n;have hlc:C.w.heap[l]?=some (.loop (rfRec fn us ps assign body D .ready none)):=by rw [<-e1];exact hc.lat
 have hvl:vs.toArray.size=ps.size:=by have:=q0A b5;rw [AR,this,hr.len _ _ _ _ hvw]
 refine ⟨fn,_,assign,body,run_yield (P:=P) hlc hvl,fun r n=>roundIn_of_wpIn (q4U r fn) ?_⟩;have hd1: @Den (pinG g (calL Ds l (.loop (rfRec fn us ps assign body D .ready none)))) (startE g.um S0 Cc2 (Hm++new)) Cc2 (putL ps.toList args' t) (Hm++new) {tmps:=(ps.zip vs.toArray).foldl (fun tm (p,v)=>tm.setIfInBounds p v) us,defers:=[]}:=
  ⟨b3,q3V hn2,⟨rfl,⟨hc2.tab.tab,hc2.tab.tab.lt⟩,S0,g.start b3 hc2.core,hc2.pins⟩,j1z b5 hc2.tmps⟩
 obtain ⟨Φ,hbody,hasg⟩:=hr.round i Hm args' new hi hHs hvw (calL Ds l (.loop (rfRec fn us ps assign body D .ready none))) (calL Ds l (.loop (rfRec fn us ps assign body D .busy none)));have h1:=hasg (startE g.um S0 Cc2 (Hm++new)) (some l) n Cc2 _ ⟨Db hn2,trivial⟩ hd1;simp only [wpT] at h1;refine wpIn_mono (by rw [<-b1];exact h1) fun e a w hq=> ?_;clear h1;cases e with
 |exit id=>simp only [exitT] at hq;obtain ⟨_,_,_,h,_⟩:=hq;exact h.elim
 |ret=>obtain ⟨_,_,_,h,_⟩:=hq;exact h.elim
 |panic ch=>obtain ⟨_,_,_,_,_,h,_⟩:=hq;exact h.elim
 |goto _=>exact hq.elim
 |outgrown=>exact hq.elim
 |normal=>
  obtain ⟨C',t',H',hΦ,rfl,hd⟩:=hq;obtain ⟨hdf,_,S1,hcore1,hp1⟩:=hd.defs;have hcal1:=hc2.run hd.ext hd.wd hcore1 hp1;have hfar1:FarAt C'.w l:=⟨_,hcal1.lat,hcal1.lfar⟩;have hcal2:=hcal1.chg (o':=.loop (rfRec fn us ps assign body D .busy none)) trivial;refine ⟨_,run_beginRound hcal1.lat rfl,?_⟩;have hd2: @Den (pinG g (calL Ds l (.loop (rfRec fn us ps assign body D .busy none)))) (startE g.um S1 (chgC C' l (.loop (rfRec fn us ps assign body D .busy none))) H') (chgC C' l (.loop (rfRec fn us ps assign body D .busy none))) t' H' a:=
   ⟨hcal2.wd,q3V hcal2.wd.n,⟨hdf,⟨hcal2.tab.tab,hcal2.tab.tab.lt⟩,S1,g.start hcal2.wd hcal2.core,hcal2.pins⟩,q0h (q7r hcal1.limm hfar1) hd.tmps⟩
  have h2:=hbody _ _ hΦ _ (some l) n _ a ⟨Db hcal2.wd.n,trivial⟩ hd2;simp only [wpT] at h2;refine wpIn_mono h2 fun e3 a9 w3 hq3=> ?_;clear h2;have fin:∀ {C3:Cx} {t3:List SV} {H3:List SObj} (jump:Option Code), @DenF (pinG g (calL Ds l (.loop (rfRec fn us ps assign body D .busy none)))) (startE g.um S1 (chgC C' l (.loop (rfRec fn us ps assign body D .busy none))) H') C3 t3 H3 a9->
   rfAt N Hs X (rfRec fn us ps assign body D) (if jump.isNone then i+1 else N+1+i) H3 (.loop (rfRec fn us ps assign body D (if jump.isNone then .ready else .done) jump))->
   ∃v w',(Instr.endRound l jump).run P C3.w= .ok v w'∧∃ (b:Bool) (C':Cx) (S':Nat->Prop),Ending.returned v= .returned (.bool b)∧C'.w=w'∧
   Wd C' (.mark (if b then i+1 else N+1+i) :: T')∧rfJ g E Ds t us.toList l N Hs X (rfRec fn us ps assign body D) (if b then i+1 else N+1+i) S' C'.w C'.I∧Rnd S C C' (.mark i :: T) (.mark (if b then i+1 else N+1+i) :: T') S':=by
   intro C3 t3 H3 jump hd3 hat;obtain ⟨_,S3,hcore3,hp3⟩:=hd3.defs;have hcal3:=hcal2.run hd3.ext hd3.wd hcore3 hp3;have hfar3:FarAt C3.w l:=⟨_,hcal3.lat,hcal3.lfar⟩;have hcal4:=hcal3.chg (o':=.loop (rfRec fn us ps assign body D (if jump.isNone then .ready else .done) jump)) trivial;have hrun:=run_endRound (P:=P) jump hcal3.lat;refine ⟨_,_,hrun,jump.isNone,⟨C2.ρ,C2.n,C3.I,(chgC C3 l (.loop (rfRec fn us ps assign body D (if jump.isNone then .ready else .done) jump))).w⟩,calS Ds l C3 H3 S3,rfl,rfl,?_⟩;generalize hC4:chgC C3 l (.loop (rfRec fn us ps assign body D (if jump.isNone then .ready else .done) jump))=C4 at*;have e4:C4.I=C3.I∧C4.ρ=C3.ρ:=by rw [<-hC4];exact ⟨rfl,rfl⟩
   have f1:Fr (fun b=>OwnB Cc2 (Hm++new) b∨S0 b∨b=l) Cc2 C':=(z4w hn2 hd.ext).mono fun b hb=>orMap hb id .inl;have f2:=j1O (o:=.loop (rfRec fn us ps assign body D .busy none)) hcal1.limm hfar1;have f3:=z4w hcal2.wd.n hd3.ext;have f4:Fr (fun b=>b=l) C3 C4:=by rw [<-hC4];exact j1O hcal3.limm hfar3
   have z1:∀b,OwnB C' H' b∨S1 b->Cc2.w.heap.size<=b∨OwnB Cc2 (Hm++new) b∨S0 b∨b=l:=fun b hb=>by
    rcases hb with x|x
    . exact orMap (z0u hn2 hd.ext x) id fun y=>orMap y id .inl
    exact (g.perm hcore1 x).1.imp id fun y=>orMap ((q0N hn2).1 y) id fun z=>.inl z.1
   have f12:=f1.trans f2 fun b hb=>.inr (.inr (.inr hb));have f123:=f12.trans f3 fun b hb=>z1 b hb;have hf:=f123.trans f4 fun b hb=>.inr (.inr (.inr hb));have z3:∀b,OwnB C3 H3 b∨S3 b->Cc2.w.heap.size<=b∨OwnB Cc2 (Hm++new) b∨S0 b∨b=l:=fun b hb=>by
    rcases hb with x|x
    . exact (z0u hcal2.wd.n hd3.ext x).elim (fun y=>.inl (As f12.size y)) fun y=>z1 b y
    exact (g.perm hcore3 x).1.elim (fun y=>.inl (As f12.size y)) fun y=>z1 b (orMap ((q0N hcal2.wd.n).1 y) id fun z=>z.1)
   have hq2:∀b,OwnB C2 (.mark i :: T') b->¬(OwnB Cc2 (Hm++new) b∨S0 b∨b=l):=fun b hb hq=>by
    have ho:=a5 b hb;rcases hq with x|x|x
    . exact (b6 b x).elim (fun y=>hsep b ho (.inl y)) fun y=>y.2 hb
    . exact hsep b ho (.inr (.inl x))
    exact hsep b ho (.inr (.inr (.inl x)))
   have hfc:Fr (fun b=>OwnB Cc2 (Hm++new) b∨S0 b∨b=l) C2 ⟨C2.ρ,C2.n,C3.I,C4.w⟩:=hf.congr (a1.trans b1.symm) (fun b=>by rw [a2,b2];exact (hI' b).symm) rfl (fun b=>by rw [e4.1]);obtain ⟨w1,w2⟩:=j7g a3 hfc hq2 rfl rfl (by have:=hcal4.wd.imm;rwa [e4.1] at this);have hownc:∀ {b:Nat} {j:Nat},OwnB ⟨C2.ρ,C2.n,C3.I,C4.w⟩ (.mark j :: T') b->OwnB C2 (.mark i :: T') b:=fun {b j} hb=>by obtain ⟨x,y,z⟩:=z4x (j:=i) hb;exact ⟨x,y,z⟩
   refine ⟨j3u w1,⟨C4,S3,H3,_,rfl,fun b=> ?_,hcal4,fun b=> ?_,hat⟩,a4.trans w2,(hf.congr (A':=C) (B':=⟨C2.ρ,C2.n,C3.I,C4.w⟩) b1.symm (fun b=>by rw [b2];exact (hI' b).symm) rfl (fun b=>by rw [e4.1])).mono fun b hq=> ?_,fun b hb=>a5 b (hownc hb),fun b hb=> ?_⟩
   . rw [e4.1];exact ⟨fun h=>⟨h,hcal4.wd.imm b (by rw [e4.1];exact h)⟩,And.left⟩
   . unfold calS OwnB;rw [e4.2]
   . rcases hq with x|x|x
     . exact orMap (b6 b x) (fun y=>(hS b).2 (.inl y)) fun y=>y.1
     . exact .inl ((hS b).2 (.inr (.inl x)))
     exact .inl ((hS b).2 (.inr (.inr (.inl x))))
   have hz:Cc2.w.heap.size<=b∨(OwnB Cc2 (Hm++new) b∨S0 b∨b=l)∨b∈Ds:=by
    rcases hb with x|x|x|x
    . exact orMap (z3 b (.inl x)) id .inl
    . exact orMap (z3 b (.inr x)) id .inl
    . exact .inr (.inl (.inr (.inr x)))
    exact .inr (.inr x)
   refine ⟨?_,fun ho=> ?_⟩
   . rcases hz with x| (x|x|x) |x
     . rw [b1] at x;exact .inl x
     . exact .inr (orMap (b6 b x) (fun y=>(hS b).2 (.inl y)) fun y=>y.1)
     . exact .inr (.inl ((hS b).2 (.inr (.inl x))))
     . exact .inr (.inl ((hS b).2 (.inr (.inr (.inl x)))))
     exact .inr (.inl ((hS b).2 (.inr (.inr (.inr x)))))
   have ho2:=hownc ho;rcases hz with x|x|x
   . have:=(a3.own b ho2).2;rw [a1,<-b1] at this;exact absurd this (AT.2 x)
   . exact hq2 b ho2 x
   exact hsep b (a5 b ho2) (.inr (.inr (.inr x)))
  cases e3 with
  |normal=>obtain ⟨C3,t3,H3,hK,rfl,hd3⟩:=hq3;exact fin none hd3 (.inl ⟨hi,hK,rfl⟩)
  |ret=>obtain ⟨C3,t3,H3,hK,rfl,hd3⟩:=hq3;exact fin (some .ret) hd3 (.inr ⟨i,.ret,.ret,rfl,hi,hK,rfl,rfl⟩)
  |exit id=>simp only [exitT] at hq3;obtain ⟨C3,t3,H3,hK,rfl,hd3⟩:=hq3;exact fin (some (.exit id)) hd3 (.inr ⟨i,.exit id,.exit id,rfl,hi,hK,rfl,rfl⟩)
  |panic ch=>obtain ⟨_,_,_,_,_,h,_⟩:=hq3;exact h.elim
  |goto _=>exact hq3.elim
  |outgrown=>exact hq3.elim
end Go.Sx
set_option maxHeartbeats 4000000
namespace Go.Sx
open Go

variable {P:Program} {AQ:Ex->List SV->List SObj->Prop} {k0:Nat} {k:List It} {t:List SV} {H:List SObj}
variable {g:FG} {Ds:List Nat}

def z1K{E:EnD}{D:Nat}{C:Cx}{ds:List Deferred}(h:(topG g (D :: Ds)).fin {E with base:=markD D :: E.base} C H ds):(topG g Ds).fin E C H ds:=by obtain ⟨Ds',e,⟨S,hc⟩,hnd,hok⟩:=h;exact ⟨Ds'++ [D],by rw [e];simp,⟨S,g.base (E:={E with base:=markD D :: E.base}) E.base hc⟩,by simpa using hnd,by simpa using hok⟩
def q8U{G1 G2:Ghost}{E:EnD}{bs:List Deferred}(hf:∀ {C H ds},G1.fin {E with base:=bs} C H ds->G2.fin E C H ds)(e:Exit)(a:Act)(w:World)(h: @conc G1 {E with base:=bs} AQ e a w): @conc G2 E AQ e a w:=by
 cases e with
 |normal=>obtain ⟨C,t,H,h1,h2,h3⟩:=h;exact ⟨C,t,H,h1,h2,⟨h3.wd,h3.ext,hf h3.defs,h3.tmps⟩⟩
 |ret=>obtain ⟨C,t,H,h1,h2,h3⟩:=h;exact ⟨C,t,H,h1,h2,⟨h3.wd,h3.ext,hf h3.defs,h3.tmps⟩⟩
 |exit id=>obtain ⟨C,t,H,h1,h2,h3⟩:=h;exact ⟨C,t,H,h1,h2,⟨h3.wd,h3.ext,hf h3.defs,h3.tmps⟩⟩
 |panic ch=>obtain ⟨C,t,H,s,v,h1,h2,h3,h4,h5,h6,h7,h8⟩:=h;exact ⟨C,t,H,s,v,h1,h2,h3,h4,h5,h6,hf h7,h8⟩
 |goto l=>exact h
 |outgrown=>exact h

def q5V{w:World}{o:Obj}{b:Nat}(h:b<w.heap.size):(w.alloc o).heap[b]?=w.heap[b]?:=by show (w.heap.push o)[b]?=_;rw [Array.getElem?_push_lt h,BL h]

def RfStop(g:FG)(P:Program)(AQ:Ex->List SV->List SObj->Prop)(k0:Nat)(k:List It)(t:List SV)(Ds:List Nat):Ex->List SObj->Prop
 |.exit id,H=>∃k',exitTo' id k=some k'∧ @Sound (topG g Ds) P AQ ⟨k0,k',t,H⟩
 |.ret,H=>AQ .ret t H
 |_,_=>False
@[reducible] def freG(g:FG)(Ds:List Nat):Ghost where
 inv0:=fun E C H=>(topG g Ds).inv0 E C H∧∀b,¬OwnB E.C E.H b
 fin:=(topG g Ds).fin
 toFin0:=fun ht h=>(topG g Ds).toFin0 ht h.1
 next0:=fun hx h=>⟨(topG g Ds).next0 hx h.1,h.2⟩
 same0:=fun hw e hk hi ho hm hl h=>⟨(topG g Ds).same0 hw e hk hi ho hm hl h.1,h.2⟩
 rd:=fun r=>r=none
 rd0:=rfl
variable {G0:Ghost}{inf:Prop}{gop:Operand}{ps:Array Tmp}{f:FuncId}{N:Nat}{vw:Nat->Nat->List SV->List SObj->Prop}
theorem z9e{assign body:Code}{fi ca ca':List SV}{ob H1:List SObj}{Hs:Nat->List SObj->Prop}{X:Nat->Ex->List SObj->Prop}
 (hG:∀ {E C},G0.inv0 E C H->(topG g Ds).inv0 E C H∧(ob= []∨∀b,¬OwnB E.C E.H b))(hF:∀ {E C H ds},(topG g Ds).fin E C H ds->G0.fin E C H ds)(hrd:∀r,G0.rd r->r=none)
 (hgop:evT t gop= .fn f fi ca)(hfi:SV.cleanL fi=true)(hca:Hand 1 H H1 ca ca' ob)(hmk:∀n,H[0]?=some (.mark n)->H1[0]?=some (.mark n))(hit:IterO inf P f fi ca' ob N vw)(hinf:inf->∀Hn,¬Hs N Hn)(hr:RfOk P g ps assign body t N vw Hs X)(h0:Hs 0 H1)(hns:noStop k=true)
 (hdone:∀D Hn,Hs N Hn-> @Sound (topG g (D :: Ds)) P AQ ⟨k0,k,t,Hn⟩)(hstop:∀D i ex Hn,i<N->X i ex Hn->RfStop g P AQ k0 k t (D :: Ds) ex Hn):
 @Sound G0 P AQ ⟨k0,.code (.rangeFunc gop ps assign body) :: k,t,H⟩:=by
 intro E r n C a hfit hd;obtain ⟨hn0,hr0⟩:E.C.n<=k0∧G0.rd r:=hfit;obtain rfl:=hrd r hr0;simp only [wpT];obtain ⟨hdf,htab,hg0⟩:=hd.defs;obtain ⟨⟨⟨S0,hcore⟩,hnd,hok⟩,hfre⟩:=hG hg0;have hgv:=q2g hd.tmps gop;rw [hgop,SV.den] at hgv;obtain ⟨v1,v2,hgv,d1,d2⟩:=hgv;refine wpIn_rangeFunc fun fn _=> ?_;have hnn:∀b,¬OwnB ⟨fun _=>none,1,C.I,C.w⟩ [.mark 0] b:=fun b ⟨x,o,_,_,hb⟩=>by cases hb
 have hw0:Wd ⟨fun _=>none,1,C.I,C.w⟩ [.mark 0]:=by
  refine ⟨rfl,fun x o ho=> ?_,fun b hb=>absurd hb (hnn b),fun x x' o o' b _ _ _ _ h=>(by cases h),hd.wd.imm⟩;cases x with
  |zero=>simp at ho;subst ho;trivial
  |succ x=>simp at ho
 obtain ⟨C2,C8,a1,a2,a3,a4,a5,b1,b2,b3,b4,b5,b6⟩:=hca C _ [.mark 0] v2 hd.wd d2 hw0 rfl rfl (fun _=>Iff.rfl) fun b _ h=>hnn b h;have h6:∀b,OwnB C8 (.mark 0 :: ob) b->OwnB C H b∧¬OwnB C2 H1 b:=fun b hb=>(b6 b hb).elim (fun h=>absurd h (hnn b)) id;have hd2:Wd C2 H1∧Ext E.toEn C2 H1∧g.core E C2 H1 S0∧SV.denL C2 t a.tmps.toList∧(∀D∈Ds,MarkOk E.toEn C2 H1 D)∧TabT C2 H1:=by
  refine ⟨a3,⟨hd.ext.evo.trans a4,by rw [a1];exact hd.ext.size,by rw [a1];exact hd.ext.os,by rw [a1];exact hd.ext.tape,by rw [a1];exact hd.ext.output,fun b h1 h2=>by rw [a1];exact hd.ext.frame b h1 h2,fun b hb=> ?_,fun b hb=>hd.ext.ownNew b (a5 b hb),fun m h0 hm=>hmk m (hd.ext.keep0 m h0 hm)⟩,?_,q0h a4 hd.tmps,fun D hD=>(hok D hD).same a1 (fun b hb=>.inl (by rw [a2] at hb;exact hb)) a5,htab.tab.sub a1 (fun b hb=>by rw [a2];exact hb) a5⟩
  . rw [a2] at hb;rw [a1];exact hd.ext.immNew b hb
  exact g.own hd.wd a1 (fun b h=>by rw [a2];exact h) (fun b h=>by rw [a2] at h;exact .inl h) (fun b hb=>.inl (a5 b hb)) (fun m _ hm=>hmk m hm) (As hd.ext.evo.n a4.n) hcore
 obtain ⟨hwd,hext,hcore2,htm,hok2,htab2⟩:=hd2;obtain ⟨w1,hw1⟩:∃w1,w1=(C.w.alloc (.deferred (some []))).alloc (.loop (rfRec fn a.tmps ps assign body C.w.heap.size .ready none)):=⟨_,rfl⟩;have hsz:w1.heap.size=C.w.heap.size+2:=by rw [hw1];simp
 have hold:∀b,b<C.w.heap.size->w1.heap[b]?=C.w.heap[b]?:=fun b hb=>by rw [hw1,q5V (by simp;omega),q5V hb]
 have hD0:w1.heap[C.w.heap.size]?=some (.deferred (some [])):=by rw [hw1,q5V (by simp),World.alloc_heap_new]
 have hl0:w1.heap[C.w.heap.size+1]?=some (.loop (rfRec fn a.tmps ps assign body C.w.heap.size .ready none)):=by rw [hw1];have:=World.alloc_heap_new (C.w.alloc (.deferred (some []))) (.loop (rfRec fn a.tmps ps assign body C.w.heap.size .ready none));rwa [World.size_alloc] at this
 have henter:(Instr.enterLoop fn a.tmps ps assign body (Fw none).round).run P C.w= .ok (C.w.heap.size+1,[markD C.w.heap.size]) w1:=by rw [hw1];exact run_enterLoop_outer _ _ _ _ _
 have hvw:World.os w1=C.w.os∧w1.tape=C.w.tape∧w1.output=C.w.output:=by rw [hw1];exact ⟨rfl,rfl,rfl⟩
 clear hw1;obtain ⟨g1,g2⟩:=j0k (w':=w1) hwd (by rw [a1];omega) (by rw [a1];exact hold) (by rw [a1];exact hvw.1) (by rw [a1];exact hvw.2.1) (by rw [a1];exact hvw.2.2);obtain ⟨w9,x9⟩:=j0k (w':=w1) b3 (by rw [b1];show C.w.heap.size<=_;omega) (by rw [b1];exact hold) (by rw [b1];exact hvw.1) (by rw [b1];exact hvw.2.1) (by rw [b1];exact hvw.2.2);have hDlt:∀D∈Ds,D<C.w.heap.size:=fun D hD=>(AE.1 (hok D hD).at_).1;have hnew:∀b,C.w.heap.size<=b->¬C2.I b∧¬OwnB C2 H1 b:=fun b hb=>⟨fun h=>absurd (hwd.imm b h) (by rw [a1];omega),fun h=>absurd (hwd.own b h).2 (by rw [a1];omega)⟩
 have hEs:E.C.w.heap.size<=C.w.heap.size:=hd.ext.size;have hcal:Cal g E (C.w.heap.size :: Ds) t a.tmps.toList (C.w.heap.size+1) (.loop (rfRec fn a.tmps ps assign body C.w.heap.size .ready none)) {C2 with w:=w1} H1 S0:=by
  refine ⟨g1,hext.trans g2,g.next g2 hcore2,q0h g2.evo htm,fun D hD=> ?_,fun hm=> ?_,by omega,(hnew _ (by omega)).1,(hnew _ (by omega)).2,hl0,trivial,⟨htab2.next g2,htab.old⟩⟩
  . rcases Bm.1 hD with rfl|hD
    . exact ⟨hEs,(hnew _ (Af _)).1,(hnew _ (Af _)).2,hD0⟩
    exact (hok2 D hD).next g2
  rcases Bm.1 hm with h|h
  . omega
  have:=hDlt _ h;omega
 have hJ:=j5O (g:=g) (E:=E) (Ds:=C.w.heap.size :: Ds) (t:=t) (tms:=a.tmps.toList) (l:=C.w.heap.size+1) (N:=N) (Hs:=Hs) (X:=X) (rec:=rfRec fn a.tmps ps assign body C.w.heap.size) (Af _);have yg:=z5H (E:=E) (Ds:=C.w.heap.size :: Ds) (l:=C.w.heap.size+1) (fn:=fn) (us:=a.tmps) (D:=C.w.heap.size) hr (Af _);have hj0:rfJ g E (C.w.heap.size :: Ds) t a.tmps.toList (C.w.heap.size+1) N Hs X (rfRec fn a.tmps ps assign body C.w.heap.size) 0 (calS (C.w.heap.size :: Ds) (C.w.heap.size+1) {C2 with w:=w1} H1 S0) w1 C8.I:=
  ⟨{C2 with w:=w1},S0,H1,_,rfl,fun b=>by rw [b2,show ({C2 with w:=w1}:Cx).I=C.I from a2];exact ⟨fun h=>⟨h,by have:=hd.wd.imm b h;omega⟩,And.left⟩,hcal,fun _=>Iff.rfl,.inl ⟨Al _,h0,rfl⟩⟩
 have hlt:∀b,OwnB C8 (.mark 0 :: ob) b->b<C.w.heap.size:=fun b hb=>(hd.wd.own b (h6 b hb).1).2;have hy:=YCore.mk (B:=E.C.w.heap.size) (E:=startE true (calS (C.w.heap.size :: Ds) (C.w.heap.size+1) {C2 with w:=w1} H1 S0) {C8 with w:=w1} (.mark 0 :: ob)) (C:={C8 with w:=w1}) (H:=.mark 0 :: ob) (S:=calS (C.w.heap.size :: Ds) (C.w.heap.size+1) {C2 with w:=w1} H1 S0)
  (by show 0<C8.n;rw [b3.n];simp) (Af _) (fun n hn=>by cases (q4B (by simp) hn).1) (by show _<=w1.heap.size;omega) (Af _) (fun b hb=>⟨.inr ((q0N w9.n).2 (.inl hb)),by
   rcases hfre with h|h
   . subst h;obtain ⟨x,o,ho,hl,_⟩:=hb;cases x with
     |zero=>simp at ho;subst ho;simp [SObj.live] at hl
     |succ x=>simp at ho
   . exact (hd.ext.ownNew b (h6 b hb).1).elim id fun x=>absurd x (h b)⟩) ⟨0,rfl,hj0⟩ (fun b hb=>⟨.inr ((q0N w9.n).2 (.inr ⟨hb,(hJ.fp hj0 hb).2⟩)),fun ho=>by
   have q:=h6 b ho;have q2:=hlt b ho;rcases hb with x|x|x|x
   . exact q.2 x
   . exact (g.perm hcore x).2.2.1 q.1
   . omega
   . rcases Bm.1 x with rfl|x
     . omega
     exact (hok b x).own q.1⟩) (fun j s f=>j2I (B:=C.w.heap.size+2) (by omega) (by omega) (fun D hD=>by
   rcases Bm.1 hD with rfl|hD
   . omega
   have:=hDlt _ hD;omega) j s f|>fun h=>by show _<w1.heap.size;omega)
 have htab9:TabT {C8 with w:=w1} (.mark 0 :: ob):=htab.tab.keep (C':={C8 with w:=w1}) (fun b hb=>⟨by show C8.I b;rw [b2];exact hb,hold b (hd.wd.imm b hb)⟩) fun b _ hb ho=>⟨by show b<w1.heap.size;omega,fun x=>ho (h6 b x).1,hold b hb⟩
 have hcall:=hit.2 (C.w.heap.size+1) E.C.w.heap.size _ hJ yg (fun hi S w I ⟨_,_,Hn,_,_,_,_,_,hat⟩=>by
  rcases hat with ⟨_,h1,_⟩ | ⟨i,_,_,h1,h2,_⟩
  . exact hinf hi Hn h1
  . omega) (startE true (calS (C.w.heap.size :: Ds) (C.w.heap.size+1) {C2 with w:=w1} H1 S0) {C8 with w:=w1} (.mark 0 :: ob)) {C8 with w:=w1} (v1++ [Value.func (.yield (C.w.heap.size+1)) #[] #[]]++v2) w9 ⟨⟨htab9,htab9.lt⟩,_,hy⟩
  (q0x.2 ⟨_,_,rfl,q0x.2 ⟨_,_,rfl,q1p (C:=C) (C':={C8 with w:=w1}) (fun b hb=>⟨by show C8.I b;rw [b2];exact hb,hold b (hd.wd.imm b hb)⟩) hfi d1,q0d.2 ⟨_,[],rfl,by rw [SV.den],q0y.2 rfl⟩⟩,q0h x9.evo b5⟩)
 refine ⟨C.w.heap.size+1,[markD C.w.heap.size],w1,{target:=.fn (.func f) v2.toArray,args:=v1.toArray++ #[.func (.yield (C.w.heap.size+1)) #[] #[]]},w1,f,(v1++ [Value.func (.yield (C.w.heap.size+1)) #[] #[]]++v2).toArray,w1,henter,?_,fun f' _=>q4U none f',?_,fun h=>(by cases h),q3Q (hcall.mono ?_)⟩
 . simp [resolve,hgv,Deferred.ofValue];rfl
 . simp [invoke,q3d hit.1]
 rintro e w' ⟨o,H',C',⟨s,m,rfl,hm,hN⟩,rfl,hw',hx',v,rfl,hv⟩;obtain ⟨_,S',hy'⟩:= @Stp.inv (fgG (yFG hJ)) _ _ _ _ _ hx' ⟨⟨htab9,htab9.lt⟩,_,hy⟩;obtain ⟨m',hm',C3,S3,H3,o3,e3,hI3,hc3,hS3,hat⟩:=hy'.st;have hmm:m'=m:=by rw [hm] at hm';simpa using hm'.symm
 subst hmm;have hden:∀ (pe:Option Code), @Den (topG g (C.w.heap.size :: Ds)) {E with base:=markD C.w.heap.size :: E.base} (chgC C3 (C.w.heap.size+1) (.loop (rfRec fn a.tmps ps assign body C.w.heap.size .exhausted pe))) t H3 {a with defers:=[markD C.w.heap.size]++a.defers}:=fun pe=>by have hcal4:=hc3.chg (o':=.loop (rfRec fn a.tmps ps assign body C.w.heap.size .exhausted pe)) trivial;exact ⟨hcal4.wd,hcal4.ext,⟨by rw [hdf];rfl,hcal4.tab,⟨S3,g.base _ hcal4.core⟩,BK.2 ⟨fun h=>absurd (hDlt _ h) (B8 _),hnd⟩,hcal4.marks⟩,hcal4.tmps⟩
 rcases hat with ⟨hmN,hHs,rfl⟩ | ⟨i,ex,c,rfl,hi,hX,hex,rfl⟩
 . have hmN:m'=N:=Nat.le_antisymm hmN hN;subst hmN;refine ⟨none,_,by rw [<-e3];exact run_endLoop hc3.lat (by simp),?_⟩;exact (q2Z (G:=G0) (fun e a w hh=>q8U (fun h=>hF (z1K h)) e a w hh) k hns).1 _ _ (hdone C.w.heap.size H3 hHs {E with base:=markD C.w.heap.size :: E.base} none n _ _ ⟨hn0,rfl⟩ (hden none))
 have hs:=hstop C.w.heap.size i ex H3 hi hX;refine ⟨some c,_,by rw [<-e3];exact run_endLoop hc3.lat (by simp),?_⟩;cases ex with
 |normal=>exact hs.elim
 |pan s=>exact hs.elim
 |ret=>cases hex;exact wpIn_ret (q8U (fun h=>hF (z1K h)) .ret _ _ ⟨_,t,H3,hs,rfl, @Den.fin (topG g (C.w.heap.size :: Ds)) _ _ _ _ _ (hden (some .ret))⟩)
 |exit id=>cases hex;obtain ⟨k',hk',hs⟩:=hs;have h9:=hs {E with base:=markD C.w.heap.size :: E.base} none n _ _ ⟨hn0,rfl⟩ (hden (some (.exit id)));have h8:= @q3t (topG g (C.w.heap.size :: Ds)) P (Fw none) n _ _ id _ _ k' k hk' h9;exact wpIn_exit ((q2Z (G:=G0) (fun e a w hh=>q8U (fun h=>hF (z1K h)) e a w hh) k hns).2 id _ _ h8)

variable {P:Program} {AQ:Ex->List SV->List SObj->Prop} {k0:Nat} {k:List IT} {t:List SV} {H:List SObj}
variable {g:FG} {Ds:List Nat}

theorem z6w:(#[]:Array Value).size=0:=rfl
attribute [go_sem] z6w
def RfStopI(g:FG)(P:Program)(AQ:Ex->List SV->List SObj->Prop)(k0:Nat)(k:List IT)(t:List SV)(Ds:List Nat):Ex->List SObj->Prop
 |.exit id,H=>∃k',exitI id k=some k'∧ @SoundI (topG g Ds) P AQ ⟨k0,k',t,H⟩
 |.ret,H=>AQ .ret t H
 |_,_=>False
theorem j2j{asg body:IC}{fi ca ca':List SV}{ob H1:List SObj}(Hs:Nat->List SObj->Prop)(X:Nat->Ex->List SObj->Prop)
 (hG:∀ {E C},G0.inv0 E C H->(topG g Ds).inv0 E C H∧(ob= []∨∀b,¬OwnB E.C E.H b))(hF:∀ {E C H ds},(topG g Ds).fin E C H ds->G0.fin E C H ds)(hrd:∀r,G0.rd r->r=none)
 (hgop:evT t gop= .fn f fi ca)(hfi:SV.cleanL fi=true)(hca:Hand 1 H H1 ca ca' ob)(hmk:∀n,H[0]?=some (.mark n)->H1[0]?=some (.mark n))(hit:IterO inf P f fi ca' ob N vw)(hinf:inf->∀Hn,¬Hs N Hn)(hlen:∀i n args' new,vw i n args' new->args'.length=ps.size)(h0:Hs 0 H1)(hns:noStopI k=true)
 (hround:∀i Hi args' new,i<N->Hs i Hi->vw i Hi.length args' new->∀L1 L2, @SoundI (pinG g L1) P (fun _ _ _=>False)
  ⟨(Hi++new).length,[.ic asg,.stop fun t' H'=> @SoundI (pinG g L2) P (RQ Hs X i) ⟨H'.length,[.ic body],t',H'⟩],putL ps.toList args' t,Hi++new⟩)
 (hdone:∀D Hn,Hs N Hn-> @SoundI (topG g (D :: Ds)) P AQ ⟨k0,k,t,Hn⟩)(hstop:∀D i ex Hn,i<N->X i ex Hn->RfStopI g P AQ k0 k t (D :: Ds) ex Hn):
 @SoundI G0 P AQ ⟨k0,.ic (.rf gop ps asg body) :: k,t,H⟩:= @q0f G0 P AQ k0 t H _ (fun td' hr=>by
 obtain ⟨c',r,rfl,hc,hr⟩:=hr;obtain ⟨a,b,rfl,ha,hb⟩:=q0L hc;refine z9e (Hs:=Hs) (X:=X) hG hF hrd hgop hfi hca hmk hit hinf ⟨hlen,fun i Hi args' new hi hH hv L1 L2=>⟨_,fun t' H' hΦ=> ?_, @q0g (pinG g L1) _ _ _ _ _ _ _ (hround i Hi args' new hi hH hv L1 L2) ⟨a,_,rfl,ha,[],rfl,rfl⟩⟩⟩ h0 (q3r hr hns) (fun D Hn h=> @q0g (topG g (D :: Ds)) _ _ _ _ _ _ _ (hdone D Hn h) hr) fun D i ex Hn hi hX=> ?_
 . exact @q0g (pinG g L2) _ _ _ _ _ _ _ hΦ ⟨b,[],rfl,hb,rfl⟩
 have h:=hstop D i ex Hn hi hX;cases ex with
 |normal=>exact h.elim
 |pan s=>exact h.elim
 |ret=>exact h
 |exit id=>
  obtain ⟨k',hk',hs⟩:=h;obtain ⟨r',hr',hrel⟩:=q2T hr hk'
  exact ⟨r',hr', @q0g (topG g (D :: Ds)) _ _ _ _ _ _ _ hs hrel⟩) rfl
def j1D{asg body:IC}{fi ca:List SV}(Hs:Nat->List SObj->Prop)(X:Nat->Ex->List SObj->Prop)
 (hgop:evT t gop= .fn f fi ca)(hfi:SV.cleanL fi=true)(hca:SV.cleanL ca=true)(hit:IterI inf P f fi ca N vw)(hinf:inf->∀Hn,¬Hs N Hn)(hlen:∀i n args' new,vw i n args' new->args'.length=ps.size)(h0:Hs 0 H)(hns:noStopI k=true)
 (hround:∀i Hi args' new,i<N->Hs i Hi->vw i Hi.length args' new->∀L1 L2, @SoundI (pinG g L1) P (fun _ _ _=>False)
  ⟨(Hi++new).length,[.ic asg,.stop fun t' H'=> @SoundI (pinG g L2) P (RQ Hs X i) ⟨H'.length,[.ic body],t',H'⟩],putL ps.toList args' t,Hi++new⟩)
 (hdone:∀D Hn,Hs N Hn-> @SoundI (topG g (D :: Ds)) P AQ ⟨k0,k,t,Hn⟩)(hstop:∀D i ex Hn,i<N->X i ex Hn->RfStopI g P AQ k0 k t (D :: Ds) ex Hn):
 @SoundI (topG g Ds) P AQ ⟨k0,.ic (.rf gop ps asg body) :: k,t,H⟩:=
 j2j (G0:=topG g Ds) Hs X (fun h=>⟨h,.inl rfl⟩) (fun h=>h) (fun _ h=>h) hgop hfi (q0P hca) (fun _ h=>h) hit hinf hlen h0 hns hround hdone hstop
def z5z{asg body:IC}{fi ca:List SV}(Hs:Nat->List SObj->Prop)(X:Nat->Ex->List SObj->Prop)
 (hgop:evT t gop= .fn f fi ca)(hfi:SV.cleanL fi=true)(hca:SV.cleanL ca=true)(hit:Iter P f fi ca N vw)(hlen:∀i n args' new,vw i n args' new->args'.length=ps.size)(h0:Hs 0 H)(hns:noStopI k=true)
 (hround:∀i Hi args' new,i<N->Hs i Hi->vw i Hi.length args' new->∀L1 L2, @SoundI (pinG g L1) P (fun _ _ _=>False)
  ⟨(Hi++new).length,[.ic asg,.stop fun t' H'=> @SoundI (pinG g L2) P (RQ Hs X i) ⟨H'.length,[.ic body],t',H'⟩],putL ps.toList args' t,Hi++new⟩)
 (hdone:∀D Hn,Hs N Hn-> @SoundI (topG g (D :: Ds)) P AQ ⟨k0,k,t,Hn⟩)(hstop:∀D i ex Hn,i<N->X i ex Hn->RfStopI g P AQ k0 k t (D :: Ds) ex Hn):
 @SoundI (topG g Ds) P AQ ⟨k0,.ic (.rf gop ps asg body) :: k,t,H⟩:=
 j1D (inf:=False) Hs X hgop hfi hca hit.toI (fun h=>h.elim) hlen h0 hns hround hdone hstop
variable {J:Nat->(Nat->Prop)->World->(Nat->Prop)->Prop}{c:IC}
theorem j1h{B:Nat}{T:List SObj}(hJ:FJ B J)(hno:∀S w I,¬J N S w I): @SoundI (topG (yFG hJ) Ds) P AQ ⟨k0,.ic c :: k,t,.mark N :: T⟩:= @q0f (topG (yFG hJ) Ds) P AQ k0 t _ _ (fun td' _ E r n C a h0 hd=>by
 obtain ⟨_,_,⟨S0,hc⟩,_⟩:=hd.defs;obtain ⟨m,h1,h2⟩:=hc.st;have e:m=N:=by simpa using h1.symm
 exact (hno _ _ _ (e▸h2)).elim) rfl

def q1K{l B:Nat}{i:Nat}{T:List SObj}(T':List SObj){args:List SV}{d:Option Tmp}
 (hJ:FJ B J)(yg:YG P l B N J vw)(hi:i<N)(hh:∀n,∃args' new,vw i n args' new∧Hand n (.mark i :: T) (.mark i :: T') args args' new)
 (hk:∀b:Bool, @SoundI (topG (yFG hJ) Ds) P AQ ⟨k0,k,putT t d (.raw (.bool b)),.mark (if b then i+1 else N+1+i) :: T'⟩): @YldI (topG (yFG hJ) Ds) P AQ l args d ⟨k0,k,t,.mark i :: T⟩:=z3F hJ yg hi hh hk
def RoundM(T:List SObj)(f:Nat->Nat)(S:Nat->List SV)(n:Nat)(p:Nat->Prop)(i:Nat):List SV->List SObj->Prop:=
 fun t' H'=>i<n∧p (i+1)∧(∃G,H'= .mark (f (i+1)) :: T++G)∧leM t' (S (i+1))
def z2C[Ghost]{k:List It}(c:Code)(T:List SObj)(f:Nat->Nat)(S:Nat->List SV)(n:Nat)(p:Nat->Prop)(h₀:p 0)(hs:leM t (S 0))(hk:k0<=T.length+1)(hb:SV.belL (T.length+1) t=true->∀i,SV.belL (T.length+1) (S i)=true)
 (round:∀i,i<=n->p i->Sound P AQ ⟨k0,.code c :: .stop (RoundM T f S n p i) :: k,S i,.mark (f i) :: T⟩):Sound P AQ ⟨k0,.code (.loop c) :: k,t,.mark (f 0) :: T⟩:=fun E r m C a h0 hd=>by
 have hbt:∀i,SV.belL (T.length+1) (S i)=true:=hb (by have:=q1A hd.tmps;rwa [hd.wd.n] at this);have hbh:belH (T.length+1) T=true:=q4D fun h o ho=>by have:=q5D (hd.wd.obj (h+1) o (by simpa using ho));rwa [hd.wd.n] at this
 simp only [wpT];refine q0R (fun m a w=>∃i,i<=n∧p i∧n-i=m∧∃C,C.w=w∧Den E C (S i) (.mark (f i) :: T) a) n ⟨0,Al _,h₀,rfl,C,rfl,hd.wd,hd.ext,hd.defs,q2L (q3h hs) hd.tmps⟩ ?_;rintro m' a w ⟨i,hi,hp,rfl,C,rfl,hd⟩;have h1:=round i hi hp E r m C a h0 hd;simp only [wpT] at h1;refine wpIn_mono h1 fun e a w hq=> ?_;cases e with
 |normal=>obtain ⟨C',t',H',⟨hlt,hp',⟨G,rfl⟩,hS⟩,rfl,hd'⟩:=hq;refine ⟨n- (i+1),by omega,i+1,hlt,hp',rfl,C'.ren (fun h=>h) (T.length+1),rfl,?_⟩;exact q7x (H':=.mark (f (i+1)) :: T) h0.1 hd' (q7b hS) (hbt _) (fun h o ho _=>by rw [q1J,Ai (Ag.1 ho).1];exact ho) (by simp only [belH,Am];exact ⟨rfl,hbh⟩) (fun _ _ _ _ _ _ _ _ e=>e) (fun _ _=>rfl) hk (fun _ hp hn=>by rw [Ai (by simp)] at hn;exact hn)
 |exit id=>simpa only [Exit.then,exitT] using hq
 |_=>exact hq
theorem q9D[Ghost](T:List SObj)(f:Nat->Nat)(upd:Nat->List (Nat×SV))(n:Nat)(p:Nat->Prop)(h₀:p 0)(hH:H= .mark (f 0) :: T)(hk:k0<=T.length+1)(hu:∀i,((upd i).all fun x=>x.2.bel (T.length+1))=true)(hs:leM t (setMany (maskT c.wr t) (upd 0)))
 (round:∀i,i<=n->p i->SoundI P AQ ⟨k0,.ic c :: .stop (RoundM T f (fun i=>setMany (maskT c.wr t) (upd i)) n p i) :: k,setMany (maskT c.wr t) (upd i),.mark (f i) :: T⟩):
 SoundI P AQ ⟨k0,.ic (.loop c) :: k,t,H⟩:=q0f (fun td' hr=>by
 subst hH;obtain ⟨c',r,rfl,hc,hr⟩:=hr;obtain ⟨x,rfl,hx⟩:=q0L hc
 exact z2C x T f _ n _ h₀ hs hk (fun hb i=>q2U _ (hu i) (q2V _ hb)) (fun i hi hp=>q0g (round i hi hp) ⟨x,_,rfl,hx,r,rfl,hr⟩)) rfl

section

variable [Ghost] {P:Program} {AQ:Ex->List SV->List SObj->Prop} {k0:Nat} {k:List IT} {k':List It} {t:List SV} {H:List SObj}
variable {all:Array Oper} {G:List Nat} {o:Oper} {ev:Operand->SV} {K:Out->List SObj->Prop}

end
section

variable [Ghost] {P:Program} {AQ:Ex->List SV->List SObj->Prop} {k0:Nat} {k:List IT} {k':List It} {t:List SV} {H:List SObj}
variable {all:Array Oper} {G:List Nat} {o:Oper}

end
section

variable [Ghost] {P:Program} {AQ:Ex->List SV->List SObj->Prop} {k0:Nat} {k:List IT} {t:List SV} {H:List SObj}

def z3K{ι:Type}(ws:List Nat)(upd:ι->List (Nat×SV))(Hf:ι->List SObj)(μ:ι->Nat)(p:ι->Prop)(i₀:ι)(h₀:p i₀)(hs:∃σ,Le σ k0 t H (setMany (maskT ws (maskT c.wr t)) (upd i₀)) (Hf i₀))
 (round:∀i,p i->SoundI P AQ ⟨k0,.ic c :: .stop (RoundK k0 (fun i=>(setMany (maskT ws (maskT c.wr t)) (upd i),Hf i)) μ p i) :: k,setMany (maskT ws (maskT c.wr t)) (upd i),Hf i⟩):SoundI P AQ ⟨k0,.ic (.loop c) :: k,t,H⟩:=
 j4w (fun i=>(setMany (maskT ws (maskT c.wr t)) (upd i),Hf i)) μ p i₀ h₀ hs round
end
end Go.Sx
/- AES: the reference's round keys. -/
namespace Go.Proofs.YthbcodbcndiapaaGreatDoor
open Go Go.Sx Go.Proofs
set_option maxRecDepth 100000
set_option maxHeartbeats 40000000

def subS(b:UInt8):UInt8:=(dat_ref06_substitutes:List UInt8).getD b.toNat 0
def lastS(w:List UInt8)(p:UInt8)(i:Nat):List UInt8:=
 if i%4=0 then [subS (w.getD (4*i-3) 0) ^^^ p,subS (w.getD (4*i-2) 0),subS (w.getD (4*i-1) 0),subS (w.getD (4*i-4) 0)]
 else [w.getD (4*i-4) 0,w.getD (4*i-3) 0,w.getD (4*i-2) 0,w.getD (4*i-1) 0]
def addL(w l:List UInt8)(i k:Nat):List UInt8:=w++(List.range k).map fun k=>w.getD (4*i-16+k) 0^^^ l.getD k 0
def wkS(key:List UInt8):Nat->List UInt8×UInt8
 |0=>(key,1)
 |n+1=>(addL (wkS key n).1 (lastS (wkS key n).1 (wkS key n).2 (n+4)) (n+4) 4,if (n+4)%4=0 then dblS (wkS key n).2 else (wkS key n).2)
def wordsS(key:List UInt8):List UInt8:=(wkS key 40).1
def z2H(key:List UInt8)(hk:key.length=16)(n:Nat):(wkS key n).1.length=16+4*n:=by
 induction n with
 |zero=>exact hk
 |succ n ih=>rw [wkS];simp only [addL,Ab,ih,AX,Bo];omega
def q4d(key:List UInt8)(hk:key.length=16):(wordsS key).length=176:=z2H key hk 40
section
variable {AQ:Ex->List SV->List SObj->Prop}
end
end Go.Proofs.YthbcodbcndiapaaGreatDoor

/- AES: the reference's encryption of a block. -/
namespace Go.Proofs.YthbcodbcndiapaaGreatDoor
open Go Go.Sx Go.Proofs
set_option maxRecDepth 100000
set_option maxHeartbeats 40000000

def shfS(b:List UInt8):List UInt8:=fS fun i=>subS (b.getD (4* ((i / 4+i%4)%4)+i%4) 0)
def rndE(w:List UInt8)(r:Nat)(b:List UInt8):List UInt8:=addS (if r<10 then mixS (shfS b) [2,3,1,1] else shfS b) w r
def encA(w b:List UInt8):Nat->List UInt8
 |0=>addS b w 0
 |n+1=>rndE w (n+1) (encA w b n)
def encS(w b:List UInt8):List UInt8:=encA w b 10
def z3p(b w:List UInt8)(r:Nat):(addS b w r).length=16:=q1U _
def z9E(b f:List UInt8):(mixS b f).length=16:=q1U _
def z9Q(b:List UInt8):(shfS b).length=16:=q1U _
def q6N(w b:List UInt8)(n:Nat):(encA w b n).length=16:=by cases n<;>exact z3p _ _ _
def q4c(w b:List UInt8):(encS w b).length=16:=q6N _ _ _
section
variable {AQ:Ex->List SV->List SObj->Prop}
end
end Go.Proofs.YthbcodbcndiapaaGreatDoor

/- AES: the reference's decryption of a block. -/
namespace Go.Proofs.YthbcodbcndiapaaGreatDoor
open Go Go.Sx Go.Proofs
set_option maxRecDepth 100000
set_option maxHeartbeats 40000000

def invP:Nat->List UInt8
 |0=>List.replicate 256 0
 |n+1=>(invP n).set (subS (UInt8.ofNat n)).toNat (UInt8.ofNat n)
def invS(c:UInt8):UInt8:=(invP 256).getD c.toNat 0
theorem z3m(n:Nat):(invP n).length=256:=by
 induction n with
 |zero=>rfl
 |succ n ih=>rw [invP,Bk,ih]
def srcU(j:Nat):Nat:=4* ((j / 4+4-j%4)%4)+j%4
def unsS(b:List UInt8):List UInt8:=fS fun j=>invS (b.getD (srcU j) 0)
def mixD(r:Nat)(b:List UInt8):List UInt8:=if r<10 then mixS b [14,11,13,9] else b
def rndD(w:List UInt8)(r:Nat)(b:List UInt8):List UInt8:=unsS (mixD r (addS b w r))
def decA(w b:List UInt8):Nat->List UInt8
 |0=>b
 |n+1=>rndD w (10-n) (decA w b n)
def decS(w b:List UInt8):List UInt8:=addS (decA w b 10) w 0
def j1q(w b:List UInt8)(hb:b.length=16)(n:Nat):(decA w b n).length=16:=by
 cases n with
 |zero=>exact hb
 |succ n=>exact q1U _
def q5f(w b:List UInt8):(decS w b).length=16:=z3p _ _ _
section
variable {AQ:Ex->List SV->List SObj->Prop}
end
def shI(j:Nat):Nat:=(4* (j / 4+j%4)+j%4)%16
def j0V(c:Option CipT.den)(b k:List UInt8)(hb:b.length=16):PE Tryz.prog 285 [.rptr 0 PasT 0 0] [.row PasT [(c,(b,k))]] (.ret (.tup [])) [.row PasT [(c,(fS fun j=>b.getD (shI j) 0,k))]]:=by
 refine q0b (Af _) ?_;refine rQ fi285 ?_;simp (maxSteps:=3000000) only [A1,hb,Ae,Ah,go_sem,↓zA,↓reduceIte,↓reduceDIte] <;>try simp only [zB]
 refine q0k (ι:=Nat) (fun i=>[(8,rI i)]) (fun i=>[.row PasT [(c,(gP b (fun j=>b.getD (shI j) 0) i,k))],.row .u8 b]) (fun i=>16-i) (fun i=>i<=16) 0 (Al _) (by rw [q5M _ hb]) ?_ fun i hi=> ?_
 . with_reducible refine sxE ?_;trivial
 have hwr:=wsx i (by omega);have hgl:=q7O b (fun j=>b.getD (shI j) 0) i;by_cases hlt:i<16
 . have f1:((i:Int) <16)=True:=eq_true (by omega);refine gy1 f1 ?_;have hs:shI i<16:=Dc _ (by decide);refine q0c (q8K i hlt) ?_;rw [show (4* (i / 4+i%4)+i%4)%16=shI i from rfl];refine uQ 600 _ ?_;simp (maxSteps:=3000000) only [hb,hgl,AD,Ae,AZ,go_sem,↓zA,↓reduceIte,↓reduceDIte] <;>try simp only [zB]
   refine ⟨⟨by omega,hs⟩,hs,⟨by omega,hlt⟩,hlt,i+1,hlt,by show 16- (i+1) <16-i;omega,?_,?_⟩
   . dsimp only;rw [<-q8P b (fun j=>b.getD (shI j) 0) hlt];rfl
   with_reducible refine sx1 hwr ?_;trivial
 obtain rfl:i=16:=by omega
 rw [q8E];refine uQ 600 _ ?_;have f1:(((16:Nat):Int) <16)=False:=eq_false (by omega);simp (maxSteps:=3000000) only [f1,go_sem,↓zA,↓reduceIte,↓reduceDIte] <;>try simp only [zB]
def hP(b:List UInt8)(n:Nat):List UInt8:=(List.range 16).map fun j=>if srcU j<n then b.getD (srcU j) 0 else b.getD j 0
def z6u(b:List UInt8)(n:Nat):(hP b n).length=16:=by simp [hP]
def j2F{b:List UInt8}(hb:b.length=16):hP b 0=b:=by
 apply Aw
 . rw [z6u,hb]
 intro j h1 h2;simp [hP,Aa,Ac h2]
def j4x:∀j:Fin 16,srcU j.val<16:=by decide
def z5T:∀j:Fin 16,srcU (shI j.val)=j.val∧shI (srcU j.val)=j.val:=by decide
def j5v(b:List UInt8):hP b 16=fS fun j=>b.getD (srcU j) 0:=by unfold hP fS;exact Ba fun i hi=>if_pos (j4x ⟨i,BE.1 hi⟩)
variable {i:Nat}
theorem j5R(b:List UInt8)(hi:i<16):(hP b i).set (shI i) (b.getD i 0)=hP b (i+1):=by
 have h1:srcU (shI i)=i:=(z5T ⟨i,hi⟩).1;apply Aw
 . simp [hP]
 intro j hj1 hj2;have hj:j<16:=by rw [z6u] at hj2;exact hj2
 rw [Bn];simp only [hP,AG,Ay];split
 . subst_vars;rw [h1,if_pos (by omega)]
 rename_i hne;have hne2:srcU j≠i:=fun e=>hne (by rw [<-e];exact (z5T ⟨j,hj⟩).2);by_cases h:srcU j<i
 . rw [if_pos h,if_pos (by omega)]
 rw [if_neg h,if_neg (by omega)]
def q8M(c:Option CipT.den)(b k:List UInt8)(hb:b.length=16):PE Tryz.prog 270 [.rptr 0 PasT 0 0] [.row PasT [(c,(b,k))]] (.ret (.tup [])) [.row PasT [(c,(fS fun j=>b.getD (srcU j) 0,k))]]:=by
 refine q0b (Af _) ?_;refine rQ fi270 ?_;simp (maxSteps:=3000000) only [A1,hb,Ae,Ah,go_sem,↓zA,↓reduceIte,↓reduceDIte] <;>try simp only [zB]
 refine q0k (ι:=Nat) (fun i=>[(8,rI i)]) (fun i=>[.row PasT [(c,(hP b i,k))],.row .u8 b]) (fun i=>16-i) (fun i=>i<=16) 0 (Al _) (by rw [j2F hb]) ?_ fun i hi=> ?_
 . with_reducible refine sxE ?_;trivial
 have hwr:=wsx i (by omega);have hgl:=z6u b i;by_cases hlt:i<16
 . have f1:((i:Int) <16)=True:=eq_true (by omega);have hs:shI i<16:=Dc _ (by decide);refine gy3 f1 hb Ae ?_;refine ⟨⟨by omega,hlt⟩,hlt,q0c (q8K i hlt) ?_⟩;rw [show (4* (i / 4+i%4)+i%4)%16=shI i from rfl];refine uQ 600 _ ?_;simp (maxSteps:=3000000) only [hb,hgl,AD,Ae,AZ,go_sem,↓zA,↓reduceIte,↓reduceDIte] <;>try simp only [zB]
   refine ⟨⟨by omega,hs⟩,hs,i+1,hlt,by show 16- (i+1) <16-i;omega,?_,?_⟩
   . dsimp only;rw [<-j5R b hlt];rfl
   with_reducible refine sx1 hwr ?_;trivial
 obtain rfl:i=16:=by omega
 rw [j5v];refine uQ 600 _ ?_;have f1:(((16:Nat):Int) <16)=False:=eq_false (by omega);simp (maxSteps:=3000000) only [f1,go_sem,↓zA,↓reduceIte,↓reduceDIte] <;>try simp only [zB]
def mixB(b f:List UInt8)(c r:Nat):Nat->UInt8
 |0=>0
 |n+1=>mixB b f c r n^^^ mulS (f.getD n 0) (b.getD (4*c+ (r+n)%4) 0)
def j5K(b f:List UInt8)(c:Nat){r:Nat}(hr:r<4):mixB b f c r 4=mixA b f c r 4:=by rcases (show r=0∨r=1∨r=2∨r=3 by omega) with rfl|rfl|rfl|rfl<;>simp only [mixA,mixB,Nat.reduceAdd,Nat.reduceSub,Nat.reduceMod,AB,Ae] <;>ac_rfl
def j2T(f b:List UInt8)(c r:Nat)(hf:f.length=4)(hb:b.length=16)(hc:c<4)(hr:r<4):PE Tryz.prog 296 [rI c,rI r,.rptr 0 .u8 0 0,.rptr 1 .u8 0 0] [.row .u8 f,.row .u8 b] (.ret (.raw (.int .u8 (mixA b f c r 4).toNat))) [.row .u8 f,.row .u8 b]:=by
 refine q0b (Af _) ?_;refine rQ fi296 ?_;simp (maxSteps:=3000000) only [A1,hf,Ae,Ah,go_sem,↓zA,↓reduceIte,↓reduceDIte] <;>try simp only [zB]
 rw [Ad (by omega)];refine q0k (ι:=Nat) (fun i=>[(10,rI i),(6,.raw (.int .u8 (mixB b f c r i).toNat))]) (fun _=>[.row .u8 f,.row .u8 b]) (fun i=>4-i) (fun i=>i<=4) 0 (Al _) rfl ?_ fun i hi=> ?_
 . with_reducible refine sxE ?_
   rfl
 have hwr:=wsx i (by omega);by_cases hlt:i<4
 . have f1:((i:Int) <4)=True:=eq_true (by omega);have e1:IntKind.i64.wrap (4* (c:Int))=((4*c:Nat):Int):=by rw [wrapi (by omega)];omega
   have e2:IntKind.i64.wrap ((r:Int)+ (i:Int))=((r+i:Nat):Int):=by rw [wrapi (by omega)];omega
   have e3:(((r+i:Nat):Int)).tmod 4=(((r+i)%4:Nat):Int):=by rw [BG (by omega)];omega
   have e4:IntKind.i64.wrap (((4*c:Nat):Int)+ (((r+i)%4:Nat):Int))=((4*c+ (r+i)%4:Nat):Int):=by rw [wrapi (by omega)];omega
   refine gy8 f1 e1 e2 e3 e4 hb hf Ae ?_;refine ⟨⟨by omega,hlt⟩,by decide,⟨by omega,by omega⟩,by omega,q0a (j0p _ _) ?_⟩;refine gQ ?_;refine ⟨i+1,hlt,by show 4- (i+1) <4-i;omega,rfl,?_⟩;simp (maxSteps:=3000000) only [hwr,xor8,go_sem,↓zA,↓reduceIte,↓reduceDIte] <;>try simp only [zB]
   rfl
 obtain rfl:i=4:=by omega
 rw [j5K _ _ _ hr];refine uQ 600 _ ?_;have f1:(((4:Nat):Int) <4)=False:=eq_false (by omega);simp (maxSteps:=3000000) only [f1,go_sem,↓zA,↓reduceIte,↓reduceDIte] <;>try simp only [zB]
theorem q7o(c:Option CipT.den)(b k f:List UInt8)(hb:b.length=16)(hf:f.length=4):PE Tryz.prog 287 [.rptr 0 PasT 0 0,.dat (.arr 4 .u8) f] [.row PasT [(c,(b,k))]] (.ret (.tup [])) [.row PasT [(c,(mixS b f,k))]]:=by
 refine q0b (Af _) ?_;refine rQ fi287 ?_;simp (maxSteps:=3000000) only [A1,hb,hf,Ae,Ah,go_sem,↓zA,↓reduceIte,↓reduceDIte] <;>try simp only [zB]
 obtain ⟨g,hg⟩:∃g:Nat->UInt8,g=fun i=>mixA b f (i / 4) (i%4) 4:=⟨_,rfl⟩;refine q0k (ι:=Nat) (fun i=>[(12,rI i)]) (fun i=>[.row PasT [(c,(gP b g i,k))],.row .u8 f,.row .u8 b]) (fun i=>16-i) (fun i=>i<=16) 0 (Al _) (by rw [q5M _ hb]) ?_ fun i hi=> ?_
 . with_reducible refine sxE ?_;trivial
 have hwr:=wsx i (by omega);have hgl:=q7O b g i;by_cases hlt:i<16
 . have f1:((i:Int) <16)=True:=eq_true (by omega);have e1:IntKind.i64.wrap ((i:Int).tdiv 4)=((i / 4:Nat):Int):=by rw [CP (by omega),wrapi (by omega)];omega
   have e2:(i:Int).tmod 4=((i%4:Nat):Int):=by rw [BG (by omega)];omega
   refine gy3 f1 e1 e2 ?_;refine ⟨by decide,by decide,q0s [1,2] (j2T f b (i / 4) (i%4) hf hb (by omega) (by omega)) rfl (by decide) (by repeat first|exact trivial|exact rfl|refine And.intro ?_ ?_) rfl rfl ?_ ?_⟩
   . simp only [mgA,sig,SObj.ren,SV.renL,List.set,List.map,Ah];with_reducible refine sxE ?_;trivial
   simp only [afterR,Out.ren,SV.ren,mgA,sig,SObj.ren,SV.renL,List.set,List.map,Ah];refine uQ 600 _ ?_;simp (maxSteps:=3000000) only [hgl,AD,Az,AZ,go_sem,↓zA,↓reduceIte,↓reduceDIte] <;>try simp only [zB]
   refine ⟨⟨by omega,hlt⟩,hlt,i+1,hlt,by show 16- (i+1) <16-i;omega,?_,?_⟩
   . dsimp only;rw [<-q8P b g hlt,hg]
   with_reducible refine sx1 hwr ?_;trivial
 obtain rfl:i=16:=by omega
 rw [q8E,hg];refine uQ 600 _ ?_;have f1:(((16:Nat):Int) <16)=False:=eq_false (by omega);simp (maxSteps:=3000000) only [f1,go_sem,↓zA,↓reduceIte,↓reduceDIte] <;>try simp only [zB]
 rfl
variable {P:Program}
theorem z7v{f:FuncId}{a:SV}{t:Ty}{x:t.den}{H0 H1:List SObj}{o:Out}(h:PE P f [a,.dat t x] H0 o H1)(ho:t.ok x)(hkn:t.known=true:=by rfl):PE P f [a,.agg (t.cells x)] H0 o H1:=
 ⟨h.1,fun C vs hw ht hv=>h.2 C vs hw ht (by
  obtain ⟨v,vs',rfl,h1,h2⟩:=q0d.1 hv;obtain ⟨v2,vs2,rfl,h3,h4⟩:=q0d.1 h2;refine q0d.2 ⟨v,_,rfl,h1,q0d.2 ⟨v2,_,rfl,?_,h4⟩⟩;simp only [SV.den] at h3⊢;obtain ⟨us,rfl,hd⟩:=h3
  exact ⟨us,rfl,t.cells_rel _ _ hkn ho hd⟩)⟩
def j5Y(c:Option CipT.den)(b k:List UInt8)(hb:b.length=16):PE Tryz.prog 286 [.rptr 0 PasT 0 0] [.row PasT [(c,(b,k))]] (.ret (.tup [])) [.row PasT [(c,(mixS b [2,3,1,1],k))]]:=by refine q0b (Af _) ?_;refine rQ fi286 ?_;refine q0i [0] (z7v (t:=.arr 4 .u8) (x:=[2,3,1,1]) (q7o c b k [2,3,1,1] hb rfl) ⟨rfl,fun _ _=>trivial⟩) rfl (by decide) (by repeat first|exact trivial|exact rfl|refine And.intro ?_ ?_) rfl rfl ?_;simp only [afterO,Out.ren,SV.ren,mgA,sig,SObj.ren,SV.renL,List.set,List.map,Ah];refine gQ ?_;trivial
def z9v(c:Option CipT.den)(b k:List UInt8)(hb:b.length=16):PE Tryz.prog 269 [.rptr 0 PasT 0 0] [.row PasT [(c,(b,k))]] (.ret (.tup [])) [.row PasT [(c,(mixS b [14,11,13,9],k))]]:=by refine q0b (Af _) ?_;refine rQ fi269 ?_;refine q0i [0] (z7v (t:=.arr 4 .u8) (x:=[14,11,13,9]) (q7o c b k [14,11,13,9] hb rfl) ⟨rfl,fun _ _=>trivial⟩) rfl (by decide) (by repeat first|exact trivial|exact rfl|refine And.intro ?_ ?_) rfl rfl ?_;simp only [afterO,Out.ren,SV.ren,mgA,sig,SObj.ren,SV.renL,List.set,List.map,Ah];refine gQ ?_;trivial
abbrev OpE(f:FuncId)(x y:PasT.den):Prop:=PE Tryz.prog f [.rptr 0 PasT 0 0] [.row PasT [x]] (.ret (.tup [])) [.row PasT [y]]
def opF(f:FuncId):SV:=.fn f [.rptr 0 PasT 0 0] []
def z7k(f1:FuncId)(x0 x1:PasT.den)(h1:OpE f1 x0 x1):PE Tryz.prog 273 [.rptr 0 PasT 0 0,.csl 1 .u8 0 0 1] [.row PasT [x0],.cells 1 [opF f1]] (.ret (.tup [])) [.row PasT [x1],.cells 1 [opF f1]]:=by
 refine q0b (Af _) ?_;unfold opF;refine rQ fi273 ?_;refine q0k (ι:=Nat) (fun i=>[(8,rI i)]) (fun i=>[.row PasT [if i=0 then x0 else x1],.cells 1 [opF f1]]) (fun i=>1-i) (fun i=>i<=1) 0 (Al _) rfl ?_ fun i hi=> ?_
 . with_reducible refine sxE ?_;trivial
 unfold opF;rcases (show i=0∨i=1 by omega) with rfl|rfl
 . have g1:((0:Int) < ((1:Nat):Int))=True:=eq_true (by decide);have g2:(((0:Nat):Int) < ((1:Nat):Int))=True:=eq_true (by decide);refine gy2 g1 g2 ?_;refine q0i [0] h1 rfl (by decide) ?_ rfl rfl ?_
   . repeat first|exact trivial|exact rfl|refine And.intro ?_ ?_
   simp only [afterO,Out.ren,SV.ren,mgA,sig,SObj.ren,SV.renL,List.set,List.map,Ah];refine gQ ?_;refine ⟨1,by decide,by decide,rfl,?_⟩;with_reducible refine sxE ?_
   rfl
 have g1:((1:Int) < ((1:Nat):Int))=False:=eq_false (by decide);have g2:(((1:Nat):Int) < ((1:Nat):Int))=False:=eq_false (by decide);refine gy2 g1 g2 ?_;trivial
def z6H(f1 f2 f3:FuncId)(x0 x1 x2 x3:PasT.den)(h1:OpE f1 x0 x1)(h2:OpE f2 x1 x2)(h3:OpE f3 x2 x3):PE Tryz.prog 273 [.rptr 0 PasT 0 0,.csl 1 .u8 0 0 3] [.row PasT [x0],.cells 1 [opF f1,opF f2,opF f3]] (.ret (.tup [])) [.row PasT [x3],.cells 1 [opF f1,opF f2,opF f3]]:=by
 refine q0b (Af _) ?_;unfold opF;refine rQ fi273 ?_;refine q0k (ι:=Nat) (fun i=>[(8,rI i)]) (fun i=>[.row PasT [if i=0 then x0 else (if i=1 then x1 else (if i=2 then x2 else x3))],.cells 1 [opF f1,opF f2,opF f3]]) (fun i=>3-i) (fun i=>i<=3) 0 (Al _) rfl ?_ fun i hi=> ?_
 . with_reducible refine sxE ?_;trivial
 unfold opF;rcases (show i=0∨i=1∨i=2∨i=3 by omega) with rfl|rfl|rfl|rfl
 . have g1:((0:Int) < ((3:Nat):Int))=True:=eq_true (by decide);have g2:(((0:Nat):Int) < ((3:Nat):Int))=True:=eq_true (by decide);refine gy2 g1 g2 ?_;refine q0i [0] h1 rfl (by decide) ?_ rfl rfl ?_
   . repeat first|exact trivial|exact rfl|refine And.intro ?_ ?_
   simp only [afterO,Out.ren,SV.ren,mgA,sig,SObj.ren,SV.renL,List.set,List.map,Ah];refine gQ ?_;refine ⟨1,by decide,by decide,rfl,?_⟩;with_reducible refine sxE ?_
   rfl
 . have g1:((1:Int) < ((3:Nat):Int))=True:=eq_true (by decide);have g2:(((1:Nat):Int) < ((3:Nat):Int))=True:=eq_true (by decide);refine gy2 g1 g2 ?_;refine ⟨by decide,q0i [0] h2 rfl (by decide) ?_ rfl rfl ?_⟩
   . repeat first|exact trivial|exact rfl|refine And.intro ?_ ?_
   simp only [afterO,Out.ren,SV.ren,mgA,sig,SObj.ren,SV.renL,List.set,List.map,Ah];refine gQ ?_;refine ⟨2,by decide,by decide,rfl,?_⟩;with_reducible refine sxE ?_
   rfl
 . have g1:((2:Int) < ((3:Nat):Int))=True:=eq_true (by decide);have g2:(((2:Nat):Int) < ((3:Nat):Int))=True:=eq_true (by decide);refine gy2 g1 g2 ?_;refine ⟨by decide,q0i [0] h3 rfl (by decide) ?_ rfl rfl ?_⟩
   . repeat first|exact trivial|exact rfl|refine And.intro ?_ ?_
   simp only [afterO,Out.ren,SV.ren,mgA,sig,SObj.ren,SV.renL,List.set,List.map,Ah];refine gQ ?_;refine ⟨3,by decide,by decide,rfl,?_⟩;with_reducible refine sxE ?_
   rfl
 have g1:((3:Int) < ((3:Nat):Int))=False:=eq_false (by decide);have g2:(((3:Nat):Int) < ((3:Nat):Int))=False:=eq_false (by decide);refine gy2 g1 g2 ?_;trivial
def z6G(f1 f2 f3 f4:FuncId)(x0 x1 x2 x3 x4:PasT.den)(h1:OpE f1 x0 x1)(h2:OpE f2 x1 x2)(h3:OpE f3 x2 x3)(h4:OpE f4 x3 x4):PE Tryz.prog 273 [.rptr 0 PasT 0 0,.csl 1 .u8 0 0 4] [.row PasT [x0],.cells 1 [opF f1,opF f2,opF f3,opF f4]] (.ret (.tup [])) [.row PasT [x4],.cells 1 [opF f1,opF f2,opF f3,opF f4]]:=by
 refine q0b (Af _) ?_;unfold opF;refine rQ fi273 ?_;refine q0k (ι:=Nat) (fun i=>[(8,rI i)]) (fun i=>[.row PasT [if i=0 then x0 else (if i=1 then x1 else (if i=2 then x2 else (if i=3 then x3 else x4)))],.cells 1 [opF f1,opF f2,opF f3,opF f4]]) (fun i=>4-i) (fun i=>i<=4) 0 (Al _) rfl ?_ fun i hi=> ?_
 . with_reducible refine sxE ?_;trivial
 unfold opF;rcases (show i=0∨i=1∨i=2∨i=3∨i=4 by omega) with rfl|rfl|rfl|rfl|rfl
 . have g1:((0:Int) < ((4:Nat):Int))=True:=eq_true (by decide);have g2:(((0:Nat):Int) < ((4:Nat):Int))=True:=eq_true (by decide);refine gy2 g1 g2 ?_;refine q0i [0] h1 rfl (by decide) ?_ rfl rfl ?_
   . repeat first|exact trivial|exact rfl|refine And.intro ?_ ?_
   simp only [afterO,Out.ren,SV.ren,mgA,sig,SObj.ren,SV.renL,List.set,List.map,Ah];refine gQ ?_;refine ⟨1,by decide,by decide,rfl,?_⟩;with_reducible refine sxE ?_
   rfl
 . have g1:((1:Int) < ((4:Nat):Int))=True:=eq_true (by decide);have g2:(((1:Nat):Int) < ((4:Nat):Int))=True:=eq_true (by decide);refine gy2 g1 g2 ?_;refine ⟨by decide,q0i [0] h2 rfl (by decide) ?_ rfl rfl ?_⟩
   . repeat first|exact trivial|exact rfl|refine And.intro ?_ ?_
   simp only [afterO,Out.ren,SV.ren,mgA,sig,SObj.ren,SV.renL,List.set,List.map,Ah];refine gQ ?_;refine ⟨2,by decide,by decide,rfl,?_⟩;with_reducible refine sxE ?_
   rfl
 . have g1:((2:Int) < ((4:Nat):Int))=True:=eq_true (by decide);have g2:(((2:Nat):Int) < ((4:Nat):Int))=True:=eq_true (by decide);refine gy2 g1 g2 ?_;refine ⟨by decide,q0i [0] h3 rfl (by decide) ?_ rfl rfl ?_⟩
   . repeat first|exact trivial|exact rfl|refine And.intro ?_ ?_
   simp only [afterO,Out.ren,SV.ren,mgA,sig,SObj.ren,SV.renL,List.set,List.map,Ah];refine gQ ?_;refine ⟨3,by decide,by decide,rfl,?_⟩;with_reducible refine sxE ?_
   rfl
 . have g1:((3:Int) < ((4:Nat):Int))=True:=eq_true (by decide);have g2:(((3:Nat):Int) < ((4:Nat):Int))=True:=eq_true (by decide);refine gy2 g1 g2 ?_;refine ⟨by decide,q0i [0] h4 rfl (by decide) ?_ rfl rfl ?_⟩
   . repeat first|exact trivial|exact rfl|refine And.intro ?_ ?_
   simp only [afterO,Out.ren,SV.ren,mgA,sig,SObj.ren,SV.renL,List.set,List.map,Ah];refine gQ ?_;refine ⟨4,by decide,by decide,rfl,?_⟩;with_reducible refine sxE ?_
   rfl
 have g1:((4:Int) < ((4:Nat):Int))=False:=eq_false (by decide);have g2:(((4:Nat):Int) < ((4:Nat):Int))=False:=eq_false (by decide);refine gy2 g1 g2 ?_;trivial
def tP(g:Nat->UInt8)(n:Nat):List UInt8:=(List.range 256).map fun j=>if j<n then g j else 0
def fwS:List UInt8:=(List.range 256).map fun j=>subS (UInt8.ofNat j)
def j6K(g:Nat->UInt8)(n:Nat):(tP g n).length=256:=by simp [tP]
theorem j4n(g:Nat->UInt8):tP g 0=List.replicate 256 0:=by unfold tP;rw [B9];refine ⟨by rw [AX,Bo],fun x hx=> ?_⟩;obtain ⟨j,_,rfl⟩:=By.1 hx;exact if_neg (Bl _)
def j5U(g:Nat->UInt8):tP g 256=(List.range 256).map g:=by unfold tP;exact Ba fun i hi=>if_pos (BE.1 hi)
theorem j5N(g:Nat->UInt8)(_hi:i<256):(tP g i).set i (g i)=tP g (i+1):=by
 apply Aw
 . simp [tP]
 intro j h1 h2;rw [Bn];simp only [tP,AG,Ay];split
 . subst_vars;rw [if_pos (by omega)]
 rename_i hne;by_cases hj:j<i
 . rw [if_pos hj,if_pos (by omega)]
 rw [if_neg hj,if_neg (by omega)]
theorem j4J(r:List UInt8×Bool):PE Tryz.prog 282 [.rptr 0 CipT 0 0] [.row CipT [((List.replicate 256 0,List.replicate 256 0),r)]] (.ret (.tup [])) [.row CipT [((fwS,invP 256),r)]]:=by
 refine q0b (Af _) ?_;refine rQ fi282 ?_;obtain ⟨g,hg⟩:∃g:Nat->UInt8,g=fun j=>subS (UInt8.ofNat j):=⟨_,rfl⟩;obtain ⟨R,hR⟩:∃R:List UInt8,R=fwS:=⟨_,rfl⟩;obtain ⟨V,hV⟩:∃V:List UInt8,V=invP 256:=⟨_,rfl⟩;rw [<-hR,<-hV];refine q0k (ι:=Nat) (fun i=>[(3,rI i)]) (fun i=>[.row CipT [((tP g i,invP i),r)]]) (fun i=>256-i) (fun i=>i<=256) 0 (Al _) (by rw [j4n];rfl) ?_ fun i hi=> ?_
 . with_reducible refine sxE ?_;trivial
 have hwr:=wsx i (by omega);have hgl:=j6K g i;have hil:=z3m i;by_cases hlt:i<256
 . have f1:((i:Int) <256)=True:=eq_true (by omega);refine uQ 600 _ ?_;have hn:(UInt8.ofNat i).toNat=i:=by rw [A8];omega
   have hu:IntKind.u8.wrap (i:Int)=(i:Int):=by rw [u8wrapR];omega
   have key:∀M:List UInt8,M=dat_ref06_substitutes->M.getD i 0=g i:=fun M hM=>by rw [hM,hg];show _=subS (UInt8.ofNat i);rw [subS,hn]
   with_reducible refine sy6 f1 hgl hil AD hu hu ?_
   rw [key]
   case a=>rfl
   have hb:=(g i).toNat_lt;refine ⟨⟨by omega,hlt⟩,⟨by omega,hlt⟩,⟨by rw [AZ],hlt⟩,⟨by omega,hlt⟩,⟨by omega,hb⟩,⟨by rw [hn],hb⟩,i+1,hlt,by show 256- (i+1) <256-i;omega,?_,?_⟩
   . dsimp only;rw [<-j5N g hlt,UInt8.ofNat_toNat,invP,hg]
   with_reducible refine sx1 hwr ?_;trivial
 obtain rfl:i=256:=by omega
 refine uQ 600 _ ?_;have f1:(((256:Nat):Int) <256)=False:=eq_false (by omega);simp (maxSteps:=3000000) only [f1,go_sem,↓zA,↓reduceIte,↓reduceDIte] <;>try simp only [zB]
 rw [j5U,hR,hV,hg];rfl
def wZ(w:List UInt8)(i:Nat):List UInt8:=(List.range 176).map fun j=>if j<i then w.getD j 0 else 0
def q4j(w:List UInt8)(i:Nat):(wZ w i).length=176:=by simp [wZ]
theorem j5h(w:List UInt8):wZ w 0=List.replicate 176 0:=by unfold wZ;rw [B9];refine ⟨by rw [AX,Bo],fun x hx=> ?_⟩;obtain ⟨j,_,rfl⟩:=By.1 hx;exact if_neg (Bl _)
variable {w:List UInt8}
def j5T(hw:w.length=176):wZ w 176=w:=by
 apply Aw
 . rw [q4j,hw]
 intro j h1 h2;simp only [wZ,AG,Ay];rw [if_pos (by omega),Aa,Ac h2,A1]
variable {j:Nat}
def z5P(w:List UInt8)(hj:j<i)(hi:i<=176):(wZ w i).getD j 0=w.getD j 0:=by simp only [wZ,Aa,AF];rw [Cm (by omega),Bz,A1,if_pos hj]
theorem j1M(w:List UInt8)(_hi:i<176):(wZ w i).set i (w.getD i 0)=wZ w (i+1):=by
 apply Aw
 . simp [wZ]
 intro j h1 h2;rw [Bn];simp only [wZ,AG,Ay];split
 . subst_vars;rw [if_pos (by omega)]
 rename_i hne;by_cases hj:j<i
 . rw [if_pos hj,if_pos (by omega)]
 rw [if_neg hj,if_neg (by omega)]
def z8f(key:List UInt8)(hk:key.length=16){n m:Nat}(h:n<=m)(hj:j<16+4*n):(wkS key m).1.getD j 0=(wkS key n).1.getD j 0:=by
 obtain ⟨d,rfl⟩:=Nat.le.dest h;induction d with
 |zero=>rfl
 |succ d ih=>rw [<-ih (by omega)];show (wkS key (n+d+1)).1.getD j 0=_;rw [wkS];simp only [addL,Aa];rw [Ai (by rw [z2H key hk];omega)]
def facS(key:List UInt8)(i:Nat):UInt8:=(wkS key (i-4)).2
def q3S(key:List UInt8)(hi:4<=i):facS key (i+1)=if i%4=0 then dblS (facS key i) else facS key i:=by unfold facS;obtain ⟨n,rfl⟩:=Nat.le.dest hi;rw [show 4+n+1-4=n+1 by omega,show 4+n-4=n by omega,wkS,show n+4=4+n by omega]
def z2q(key:List UInt8)(hi:i<=4):facS key i=1:=by unfold facS;rw [show i-4=0 by omega,wkS]
def z0Y(key:List UInt8)(hk:key.length=16)(hj:j<16):(wordsS key).getD j 0=key.getD j 0:=
 z8f key hk (Al 40) hj
def q8d(key:List UInt8)(hk:key.length=16)(h4:4<=i)(hi:i<44)(hj:j<4):
 (wordsS key).getD (4*i+j) 0=(wordsS key).getD (4* (i-4)+j) 0^^^ (lastS (wordsS key) (facS key i) i).getD j 0:=by
 obtain ⟨n,rfl⟩:=Nat.le.dest h4;have hl:=z2H key hk n;have g:∀k,k<16+4*n->(wordsS key).getD k 0=(wkS key n).1.getD k 0:=fun k h=>z8f key hk (show n<=40 by omega) h;have hla:lastS (wordsS key) (facS key (4+n)) (4+n)=lastS (wkS key n).1 (wkS key n).2 (n+4):=by unfold lastS facS;rw [show 4+n=n+4 by omega,show n+4-4=n by omega];rw [g (4* (n+4) -1) (by omega),g (4* (n+4) -2) (by omega),g (4* (n+4) -3) (by omega),g (4* (n+4) -4) (by omega)]
 rw [hla,g (4* (4+n-4)+j) (by omega)];unfold wordsS;rw [z8f key hk (show n+1<=40 by omega) (show 4* (4+n)+j<16+4* (n+1) by omega),wkS];simp only [addL,Aa];rw [Ao (by omega),AF,Cm (by omega)];simp only [Bz,A1];rw [hl,show 4* (4+n)+j- (16+4*n)=j by omega,show 4* (n+4) -16+j=4* (4+n-4)+j by omega]
variable {k0:Nat}
def leK{σ:Nat->Nat}{t t':List SV}{H H':List SObj}(hf:fixK σ k0=true)(hl:k0<=H'.length)(hm:∀n,H[0]?≠some (.mark n))(h1:leT σ t t')(h2:leH σ H 0 H')(h3:SV.belL H'.length t'=true)(h4:belH H'.length H'=true)(h5:injH σ 0 H' []=true):∃σ,Le σ k0 t H t' H':=
 ⟨σ,h1,h2,h3,h4,h5,hf,hl,fun n _ h=>absurd h (hm n)⟩
def rndK{ι:Type}{S:ι->List SV×List SObj}{μ:ι->Nat}{p:ι->Prop}{i:ι}{t':List SV}{H':List SObj}(σ:Nat->Nat)(j:ι)(hj:p j)(hf:fixK σ k0=true)(hl':k0<=(S j).2.length)(hm:∀n,H'[0]?≠some (.mark n))(hl:μ j<μ i)(h1:leT σ t' (S j).1)(h2:leH σ H' 0 (S j).2)(h3:SV.belL (S j).2.length (S j).1=true)(h4:belH (S j).2.length (S j).2=true)(h5:injH σ 0 (S j).2 []=true):RoundK k0 S μ p i t' H':=
 ⟨j,hj,hl,σ,h1,h2,h3,h4,h5,hf,hl',fun n _ h=>absurd h (hm n)⟩
theorem z3k{C:Cx}{ty:Ty}{xs:List ty.den}:∀ {t:List SV} {vs:List Value} {slot:Nat},t[slot]?=some (.fsl ty xs)->SV.denL C t vs->SV.denL C (t.set slot (.isl ty xs)) vs
 | [],_,_,h,_=>by cases h
 |s :: l,_,0,h,d=>by obtain ⟨v,us,rfl,h1,h2⟩:=q0d.1 d;obtain rfl:s= .fsl ty xs:=Option.some.inj h;rw [SV.den] at h1;refine q0d.2 ⟨v,us,rfl,?_,h2⟩;rw [SV.den];exact h1.1
 |s :: l,_,n+1,h,d=>by obtain ⟨v,us,rfl,h1,h2⟩:=q0d.1 d;exact q0d.2 ⟨v,us,rfl,h1,z3k h h2⟩
def z0N[Ghost]{AQ:Ex->List SV->List SObj->Prop}{td:List IT}{t:List SV}{H:List SObj}{ty:Ty}{xs:List ty.den}(slot:Nat)(hp:plainT td=true)(ht:t[slot]?=some (.fsl ty xs))(hs:SoundI P AQ ⟨k0,td,t.set slot (.isl ty xs),H⟩):SoundI P AQ ⟨k0,td,t,H⟩:=
 q0f (fun _ hr E r n C a h0 hd=>q0g hs hr E r n C a h0 ⟨hd.wd,hd.ext,hd.defs,z3k ht hd.tmps⟩) hp
def kpS(w z:List UInt8)(n:Nat):List UInt8:=(List.range 176).map fun j=>if j<n then w.getD j 0 else z.getD j 0
def q5W(w z:List UInt8)(n:Nat):(kpS w z n).length=176:=by simp [kpS]
def z9H(w:List UInt8){z:List UInt8}(hz:z.length=176):kpS w z 0=z:=by
 apply Aw
 . rw [q5W,hz]
 intro j h1 h2;simp only [kpS,AG,Ay];rw [if_neg (Bl _),Aa,Ac h2,A1]
def j2m(z:List UInt8)(hw:w.length=176):kpS w z 176=w:=by
 apply Aw
 . rw [q5W,hw]
 intro j h1 h2;simp only [kpS,AG,Ay];rw [if_pos (by omega),Aa,Ac h2,A1]
theorem z1R(c:CipT.den)(x:UInt8)(_hl:(c.1.1:List UInt8).length=256):PE Tryz.prog 294 [.rptr 0 CipT 0 0,.raw (.int .u8 x.toNat)] [.row CipT [c]] (.ret (.raw (.int .u8 ((c.1.1:List UInt8).getD x.toNat 0).toNat))) [.row CipT [c]]:=by refine q0b (Af _) ?_;refine rQ fi294 ?_;have hx:=x.toNat_lt;refine ⟨⟨by omega,hx⟩,by omega,?_⟩;rw [AD];rfl
def j5X{q:List UInt8}(hi:i<44)(hq:q.length=4)(h:∀j,j<4->q.getD j 0=w.getD (4*i+j) 0):(wZ w (4*i)).take (0+i*4)++q++(wZ w (4*i)).drop (0+i*4+q.length)=wZ w (4* (i+1)):=by
 have hl:=q4j w (4*i);apply Aw
 . simp only [Ab,Ak,Aj,q4j,hq];omega
 intro j h1 h2;have h2':j<176:=by rw [q4j] at h2;exact h2
 have hr:(wZ w (4* (i+1)))[j]=if j<4* (i+1) then w.getD j 0 else 0:=by simp [wZ]
 refine Eq.trans ?_ hr.symm;by_cases c1:j<4*i
 . rw [AP (by simp only [Ab,Ak,hl,hq];omega),AP (by simp only [Ak,hl];omega),List.getElem_take,if_pos (by omega)];simp only [wZ,AG,Ay];rw [if_pos c1]
 by_cases c2:j<4* (i+1)
 . rw [AP (by simp only [Ab,Ak,hl,hq];omega),A6 (by simp only [Ak,hl];omega),if_pos c2];have hjj:=h (j-4*i) (by omega);rw [show 4*i+ (j-4*i)=j by omega] at hjj;rw [<-hjj,Aa,Ac (by omega),A1];congr 1;simp only [Ak,hl];omega
 rw [A6 (by simp only [Ab,Ak,hl,hq];omega),Ca,if_neg c2];simp only [wZ,AG,Ay,Ab,Ak,AX,Bo,hq];rw [if_neg (by omega)]
def j4b{z q:List UInt8}(hi:i<44)(hq:q.length=4)(h:∀j,j<4->q.getD j 0=w.getD (4*i+j) 0):(kpS w z (4*i)).take (4*i)++q++(kpS w z (4*i)).drop (4*i+4)=kpS w z (4* (i+1)):=by
 have hl:=q5W w z (4*i);apply Aw
 . simp only [Ab,Ak,Aj,q5W,hq];omega
 intro j h1 h2;have h2':j<176:=by rw [q5W] at h2;exact h2
 have hr:(kpS w z (4* (i+1)))[j]=if j<4* (i+1) then w.getD j 0 else z.getD j 0:=by simp [kpS]
 refine Eq.trans ?_ hr.symm;by_cases c1:j<4*i
 . rw [AP (by simp only [Ab,Ak,hl,hq];omega),AP (by simp only [Ak,hl];omega),List.getElem_take,if_pos (by omega)];simp only [kpS,AG,Ay];rw [if_pos c1]
 by_cases c2:j<4* (i+1)
 . rw [AP (by simp only [Ab,Ak,hl,hq];omega),A6 (by simp only [Ak,hl];omega),if_pos c2];have hjj:=h (j-4*i) (by omega);rw [show 4*i+ (j-4*i)=j by omega] at hjj;rw [<-hjj,Aa,Ac (by omega),A1];congr 1;simp only [Ak,hl];omega
 rw [A6 (by simp only [Ab,Ak,hl,hq];omega),Ca,if_neg c2];simp only [kpS,AG,Ay,Ab,Ak,AX,Bo,hq];rw [if_neg (by omega),show 4*i+4+ (j- (min (4*i) 176+4))=j by omega]
def z7V(hi:i<44)(h4:4<=i):List.take 4 (List.drop (0+ (i-1)*4) (wZ w (4*i)))= [w.getD (4*i-4) 0,w.getD (4*i-3) 0,w.getD (4*i-2) 0,w.getD (4*i-1) 0]:=by
 have hl:(List.take 4 (List.drop (0+ (i-1)*4) (wZ w (4*i)))).length=4:=by simp only [Ak,Aj,q4j];omega
 have hg:∀j,j<4->(List.take 4 (List.drop (0+ (i-1)*4) (wZ w (4*i)))).getD j 0=w.getD (4*i-4+j) 0:=fun j hj=>by simp only [Aa];rw [A3 hj,AA,show 0+ (i-1)*4+j=4*i-4+j by omega];have:=z5P w (i:=4*i) (j:=4*i-4+j) (by omega) (by omega);simp only [Aa] at this;exact this
 apply Aw
 . rw [hl];rfl
 intro j h1 h2;rw [hl] at h1;have h3:=hg j h1;rw [Aa,Ac (by omega),A1] at h3;rw [h3];rcases (show j=0∨j=1∨j=2∨j=3 by omega) with rfl|rfl|rfl|rfl
 . rfl
 . show w.getD (4*i-4+1) 0=w.getD (4*i-3) 0;rw [show 4*i-4+1=4*i-3 by omega]
 . show w.getD (4*i-4+2) 0=w.getD (4*i-2) 0;rw [show 4*i-4+2=4*i-2 by omega]
 show w.getD (4*i-4+3) 0=w.getD (4*i-1) 0;rw [show 4*i-4+3=4*i-1 by omega]
theorem z6R(key fw inv z:List UInt8)(b:Bool)(hk:key.length=16)(hf:∀c:UInt8,fw.getD c.toNat 0=subS c)(hfl:fw.length=256)(hz:z.length=176):PE Tryz.prog 283 [.rptr 0 CipT 0 0,.isl .u8 key] [.row CipT [((fw,inv),(z,b))]] (.ret (.tup [])) [.row CipT [((fw,inv),(wordsS key,b))]]:=by
 obtain ⟨w,hw⟩:∃w,w=wordsS key:=⟨_,rfl⟩;rw [<-hw];have hwl:w.length=176:=by rw [hw];exact q4d key hk
 have hR:List.replicate 176 Ty.u8.dflt=wZ w 0:=(j5h w).symm;refine q0b (Af _) ?_;refine q1T fi283 (q0r mixed 600 _ ?_);simp (maxSteps:=3000000) only [ir283,↓hR,go_sem,↓zA,↓reduceIte,↓reduceDIte] <;>try simp only [zB]
 have hl0:=q4j w 0;refine ⟨by omega,?_⟩;refine z3K (ι:=Nat) [] (fun i=>[(12,rI i),(5,.raw (.int .u8 (facS key i).toNat))]) (fun i=>[.row CipT [((fw,inv),(z,b))],.row .u8 (wZ w (4*i))]) (fun i=>44-i) (fun i=>i<=44) 0 (Al _) (leK (σ:=fun h=>h) rfl (CI 1 _) (fun n h=>by cases h) ?_ ?_ ?_ ?_ ?_) ?_
 . with_reducible refine sxE ?_
   rfl
 . refine ⟨rfl,congrArg (fun x=>some (SObj.row .u8 x)) ?_,trivial⟩;rw [List.drop_of_length_le (by rw [q4j];exact Af 176),Ah];exact hR
 . kernel_rfl
 . kernel_rfl
 . kernel_rfl
 intro i hi;have hl:=q4j w (4*i);have hwr:=wsx i (by omega);have e1:IntKind.i64.wrap (4* (i:Int))=((4*i:Nat):Int):=by rw [wrapi (by omega)];omega
 by_cases hlt:i<44
 . have f1:((i:Int) <44)=True:=eq_true (by omega);by_cases h4:i<4
   . have f2:((i:Int) <4)=True:=eq_true (by omega);have e2:IntKind.i64.wrap (((4*i:Nat):Int)+4)=((4*i+4:Nat):Int):=by rw [wrapi (by omega)];omega
     refine uQ 34 _ ?_;with_reducible refine sy6 f1 f2 hl hk e1 e2 ?_
     refine ⟨by omega,z0N 27 rfl rfl ?_⟩;have hq4:(List.take 4 (List.drop (4*i) (List.take (4*i+4) key))).length=4:=by simp only [Ak,Aj,hk];omega
     refine gy2 hk hl ?_;refine ⟨by simp only [Ak,Aj,hk];omega,⟨by omega,hlt⟩,by omega,?_⟩;refine rndK (fun h=>h) (i+1) (by omega) rfl (CI 1 _) (fun n h=>by cases h) (by show 44- (i+1) <44-i;omega) ?_ ?_ ?_ ?_ ?_
     . with_reducible refine sx1 hwr ?_
       rw [z2q key (by omega),z2q key (by omega)]
     . refine ⟨rfl,congrArg (fun x=>some (SObj.row .u8 x)) (j5X hlt hq4 fun j hj=> ?_),trivial⟩;rw [hw,z0Y key hk (by omega)];simp only [Aa];rw [A3 hj,AA,A3 (by omega)]
     . kernel_rfl
     . kernel_rfl
     kernel_rfl
   have f2:((i:Int) <4)=False:=eq_false (by omega);have h4':4<=i:=by omega
   have e3:IntKind.i64.wrap ((i:Int) -1)=((i-1:Nat):Int):=by rw [wrapi (by omega)];omega
   have e4:(i:Int).tmod 4=((i%4:Nat):Int):=by rw [BG (by omega)];rfl
   have e5:IntKind.i64.wrap ((i%4:Nat):Int)=((i%4:Nat):Int):=wrapi (by omega);by_cases h0:i%4=0
   . have f3:(((i%4:Nat):Int)=0)=True:=eq_true (by omega);have hq:=z7V (w:=w) hlt h4';refine uQ 40 _ ?_;simp (maxSteps:=3000000) only [f1,f2,f3,hl,hk,e1,e3,e4,e5,hq,go_sem,↓zA,↓reduceIte,↓reduceDIte] <;>try simp only [zB]
     refine ⟨⟨by omega,by omega⟩,by omega,by decide,?_⟩;obtain ⟨x0,hx0⟩:∃x,x=w.getD (4*i-4) 0:=⟨_,rfl⟩;obtain ⟨x1,hx1⟩:∃x,x=w.getD (4*i-3) 0:=⟨_,rfl⟩;obtain ⟨x2,hx2⟩:∃x,x=w.getD (4*i-2) 0:=⟨_,rfl⟩;obtain ⟨x3,hx3⟩:∃x,x=w.getD (4*i-1) 0:=⟨_,rfl⟩;rw [<-hx0,<-hx1,<-hx2,<-hx3];have rep:∀x:UInt8,PE Tryz.prog 294 [.rptr 0 CipT 0 0,.raw (.int .u8 x.toNat)] [.row CipT [((fw,inv),(z,b))]] (.ret (.raw (.int .u8 (subS x).toNat))) [.row CipT [((fw,inv),(z,b))]]:=fun x=>by have h:=z1R ((fw,inv),(z,b)) x hfl;rw [hf x] at h;exact h
     refine gQ ?_;refine q0s [0] (rep x1) rfl (by decide) (by repeat first|exact trivial|exact rfl|refine And.intro ?_ ?_) rfl rfl ?_ ?_
     . simp (maxSteps:=3000000) only [mgA,sig,q0w,q0D,SObj.ren,go_sem,↓zA,↓reduceIte,↓reduceDIte] <;>try simp only [zB]
     refine rnE ?_;refine uQ 600 _ ?_;simp (maxSteps:=3000000) only [xor8,go_sem,↓zA,↓reduceIte,↓reduceDIte] <;>try simp only [zB]
     refine q0s [0] (rep x2) rfl (by decide) (by repeat first|exact trivial|exact rfl|refine And.intro ?_ ?_) rfl rfl ?_ ?_
     . simp (maxSteps:=3000000) only [mgA,sig,q0w,q0D,SObj.ren,go_sem,↓zA,↓reduceIte,↓reduceDIte] <;>try simp only [zB]
     refine rnE ?_;refine gQ ?_;refine q0s [0] (rep x3) rfl (by decide) (by repeat first|exact trivial|exact rfl|refine And.intro ?_ ?_) rfl rfl ?_ ?_
     . simp (maxSteps:=3000000) only [mgA,sig,q0w,q0D,SObj.ren,go_sem,↓zA,↓reduceIte,↓reduceDIte] <;>try simp only [zB]
     refine rnE ?_;refine gQ ?_;refine q0s [0] (rep x0) rfl (by decide) (by repeat first|exact trivial|exact rfl|refine And.intro ?_ ?_) rfl rfl ?_ ?_
     . simp (maxSteps:=3000000) only [mgA,sig,q0w,q0D,SObj.ren,go_sem,↓zA,↓reduceIte,↓reduceDIte] <;>try simp only [zB]
     refine rnE ?_;refine uQ 600 _ ?_;simp (maxSteps:=3000000) only [AZ,go_sem,↓zA,↓reduceIte,↓reduceDIte] <;>try simp only [zB]
     have e6:IntKind.i64.wrap ((i:Int) -4)=((i-4:Nat):Int):=by rw [wrapi (by omega)];omega
     have hfs:=q3S key h4';rw [if_pos h0] at hfs;have hL:lastS w (facS key i) i= [subS x1^^^ facS key i,subS x2,subS x3,subS x0]:=by unfold lastS;rw [if_pos h0,hx0,hx1,hx2,hx3]
     have hrec:=fun j hj=>q8d key hk h4' hlt (j:=j) hj;rw [<-hw] at hrec;have hLl:(lastS w (facS key i) i).length=4:=by rw [hL];rfl
     rw [<-hL];generalize lastS w (facS key i) i=L at*;refine q0a (q7P (facS key i)) ?_;rw [<-hfs];refine gQ ?_;refine q0k (ι:=Nat) (fun j=>[(67,rI j)]) (fun j=>[.row CipT [((fw,inv),(z,b))],.row .u8 (wZ w (4*i+j)),.row .u8 L]) (fun j=>4-j) (fun j=>j<=4) 0 (Al _) rfl ?_ fun j hj=> ?_
     . with_reducible refine sxE ?_;trivial
     have hlj:=q4j w (4*i+j);have hwj:=wsx j (by omega);by_cases hj4:j<4
     . have hwg:(wZ w (4*i+j)).getD (0+ (i-4)*4+j) Ty.u8.dflt=w.getD (4* (i-4)+j) 0:=by rw [show 0+ (i-4)*4+j=4* (i-4)+j by omega];exact z5P w (by omega) (by omega)
       have g1:((j:Int) <4)=True:=eq_true (by omega);refine uQ 600 _ ?_;simp (maxSteps:=3000000) only [g1,e6,hlj,hLl,hwg,xor8,AZ,Az,go_sem,↓zA,↓reduceIte,↓reduceDIte] <;>try simp only [zB]
       refine ⟨⟨by omega,by omega⟩,⟨by omega,hj4⟩,by omega,⟨by omega,hj4⟩,by omega,⟨by omega,hlt⟩,⟨by omega,hj4⟩,by omega,j+1,hj4,by show 4- (j+1) <4-j;omega,?_,?_⟩
       . show _= [_,SObj.row .u8 (wZ w (4*i+j+1)),_];rw [<-j1M w (show 4*i+j<176 by omega),hrec j hj4,show 0+i*4+j=4*i+j by omega,Ae];rfl
       with_reducible refine sx1 hwj ?_;trivial
     obtain rfl:j=4:=by omega
     have g1:(((4:Nat):Int) <4)=False:=by decide
     refine gy1 g1 ?_;refine rndK (fun h=>h) (i+1) (by omega) rfl (CI 1 _) (fun n h=>by cases h) (by show 44- (i+1) <44-i;omega) ?_ ?_ ?_ ?_ ?_
     . with_reducible refine sx1 hwr ?_;trivial
     . exact ⟨rfl,rfl,trivial⟩
     . kernel_rfl
     . kernel_rfl
     kernel_rfl
   have f3:(((i%4:Nat):Int)=0)=False:=eq_false (by omega);have e6:IntKind.i64.wrap ((i:Int) -4)=((i-4:Nat):Int):=by rw [wrapi (by omega)];omega
   have hfs:=q3S key h4';rw [if_neg h0] at hfs;have hq:=z7V (w:=w) hlt h4';have hL:lastS w (facS key i) i= [w.getD (4*i-4) 0,w.getD (4*i-3) 0,w.getD (4*i-2) 0,w.getD (4*i-1) 0]:=by unfold lastS;rw [if_neg h0]
   have hrec:=fun j hj=>q8d key hk h4' hlt (j:=j) hj;rw [<-hw] at hrec;refine uQ 600 _ ?_;simp (maxSteps:=3000000) only [f1,f2,f3,hl,hk,e1,e3,e4,e5,hq,go_sem,↓zA,↓reduceIte,↓reduceDIte] <;>try simp only [zB]
   refine ⟨⟨by omega,by omega⟩,by omega,by decide,?_⟩;have hLl:(lastS w (facS key i) i).length=4:=by rw [hL];rfl
   rw [<-hL];generalize lastS w (facS key i) i=L at*;refine q0k (ι:=Nat) (fun j=>[(67,rI j)]) (fun j=>[.row CipT [((fw,inv),(z,b))],.row .u8 (wZ w (4*i+j)),.row .u8 L]) (fun j=>4-j) (fun j=>j<=4) 0 (Al _) rfl ?_ fun j hj=> ?_
   . with_reducible refine sxE ?_;trivial
   have hlj:=q4j w (4*i+j);have hwj:=wsx j (by omega);by_cases hj4:j<4
   . have hwg:(wZ w (4*i+j)).getD (0+ (i-4)*4+j) Ty.u8.dflt=w.getD (4* (i-4)+j) 0:=by rw [show 0+ (i-4)*4+j=4* (i-4)+j by omega];exact z5P w (by omega) (by omega)
     have g1:((j:Int) <4)=True:=eq_true (by omega);refine uQ 600 _ ?_;simp (maxSteps:=3000000) only [g1,e6,hlj,hLl,hwg,xor8,AZ,Az,go_sem,↓zA,↓reduceIte,↓reduceDIte] <;>try simp only [zB]
     refine ⟨⟨by omega,by omega⟩,⟨by omega,hj4⟩,by omega,⟨by omega,hj4⟩,by omega,⟨by omega,hlt⟩,⟨by omega,hj4⟩,by omega,j+1,hj4,by show 4- (j+1) <4-j;omega,?_,?_⟩
     . show _= [_,SObj.row .u8 (wZ w (4*i+j+1)),_];rw [<-j1M w (show 4*i+j<176 by omega),hrec j hj4,show 0+i*4+j=4*i+j by omega,Ae];rfl
     with_reducible refine sx1 hwj ?_;trivial
   obtain rfl:j=4:=by omega
   have g1:(((4:Nat):Int) <4)=False:=by decide
   refine gy1 g1 ?_;refine rndK (fun h=>h) (i+1) (by omega) rfl (CI 1 _) (fun n h=>by cases h) (by show 44- (i+1) <44-i;omega) ?_ ?_ ?_ ?_ ?_
   . with_reducible refine sy2 hwr hfs ?_;trivial
   . exact ⟨rfl,rfl,trivial⟩
   . kernel_rfl
   . kernel_rfl
   kernel_rfl
 obtain rfl:i=44:=by omega
 have f1:(((44:Nat):Int) <44)=False:=eq_false (by omega);have hR2:wZ w (4*44)=w:=j5T hwl;refine gy1 f1 ?_;rw [hR2];refine ⟨by omega,?_⟩;refine z3K (ι:=Nat) [4] (fun i=>[(87,rI i)]) (fun i=>[.row CipT [((fw,inv),(kpS w z (4*i),b))]]) (fun i=>44-i) (fun i=>i<=44) 0 (Al _) (leK (σ:=fun h=>h) rfl (Af _) (fun n h=>by cases h) ?_ ?_ ?_ ?_ ?_) ?_
 . with_reducible refine sxE ?_;trivial
 . exact ⟨congrArg (fun x=>some (SObj.row CipT [((fw,inv),(x,b))])) (z9H w hz).symm,trivial⟩
 . kernel_rfl
 . kernel_rfl
 . kernel_rfl
 intro i hi;have hkl:=q5W w z (4*i);have hwr:=wsx i (by omega);by_cases hlt:i<44
 . have f2:((i:Int) <44)=True:=eq_true (by omega);have e1:(i:Int).tdiv 4=((i / 4:Nat):Int):=by rw [CP (by omega)];rfl
   have e2:IntKind.i64.wrap ((i / 4:Nat):Int)=((i / 4:Nat):Int):=wrapi (by omega);have e4:(i:Int).tmod 4=((i%4:Nat):Int):=by rw [BG (by omega)];rfl
   have e5:IntKind.i64.wrap ((i%4:Nat):Int)=((i%4:Nat):Int):=wrapi (by omega);have e6:IntKind.i64.wrap (((i%4:Nat):Int)*4)=((i%4*4:Nat):Int):=by rw [wrapi (by omega)];omega
   have h176:List.take 176 w=w:=Ad (by omega);obtain ⟨q,hq⟩:∃q,q=List.take 4 (List.drop (i*4) w):=⟨_,rfl⟩;have hql:q.length=4:=by rw [hq];simp only [Ak,Aj];omega
   have htq:List.take 4 q=q:=Ad (by omega);have hmin:min 4 (16-i%4*4)=4:=by omega
   have hput:=j4b (w:=w) (z:=z) (q:=q) hlt hql fun j hj=>by rw [hq];simp only [Aa];rw [A3 hj,AA,show i*4+j=4*i+j by omega]
   have hio:i / 4*16+i%4*4=4*i:=by omega
   refine uQ 600 _ ?_;simp (maxSteps:=3000000) only [f2,e1,e2,e4,e5,e6,hwl,h176,<-hq,hql,htq,hmin,hio,Ab,hkl,go_sem,↓zA,↓reduceIte,↓reduceDIte] <;>try simp only [zB]
   refine ⟨⟨by omega,hlt⟩,by decide,⟨by omega,by omega⟩,by decide,⟨by omega,by omega,by omega⟩,by decide,by omega,?_⟩;refine rndK (fun h=>h) (i+1) (by omega) rfl (Af _) (fun n h=>by cases h) (by show 44- (i+1) <44-i;omega) ?_ ?_ ?_ ?_ ?_
   . with_reducible refine sx1 hwr ?_;trivial
   . exact ⟨congrArg (fun x=>some (SObj.row CipT [((fw,inv),(x,b))])) hput,trivial⟩
   . kernel_rfl
   . kernel_rfl
   kernel_rfl
 obtain rfl:i=44:=by omega
 have f2:(((44:Nat):Int) <44)=False:=by decide
 refine gy1 f2 ?_;rw [j2m z hwl]
def cipS(key:List UInt8):CipT.den:=((fwS,invP 256),(wordsS key,true))
def z7I(c:UInt8):fwS.getD c.toNat 0=subS c:=by have h:=c.toNat_lt;unfold fwS;rw [Aa,AF,Cm h,Bz,A1,AZ]
theorem j6G(key:List UInt8)(hk:key.length=16):PC Tryz.prog 261 [.isl .u8 key] (.tup [.iptr CipT (cipS key) 0,rI 0]):=by
 have f1:(((key.length:Nat):Int)=16)=True:=eq_true (by omega);have hfi:=j4J (List.replicate 176 0,true);have hex:=z6R key fwS (invP 256) (List.replicate 176 0) true hk z7I (by simp [fwS]) (by simp);have hc:cipS key=((fwS,invP 256),(wordsS key,true)):=rfl;rw [hc];generalize fwS=fw at*;generalize invP 256=iv at*;generalize wordsS key=w at*;refine q0n rfl rfl ?_;refine ry1 fi261 f1 ?_;refine q0i [0] hfi rfl (by decide) (by repeat first|exact trivial|exact rfl|refine And.intro ?_ ?_) rfl rfl ?_;simp only [afterO,Out.ren,SV.ren,mgA,sig,SObj.ren,SV.renL,List.set,List.map,Ah];refine gQ ?_;refine q0i [0] hex rfl (by decide) (by repeat first|exact trivial|exact rfl|refine And.intro ?_ ?_) rfl rfl ?_;simp only [afterO,Out.ren,SV.ren,mgA,sig,SObj.ren,SV.renL,List.set,List.map,Ah];refine uQ 3 _ ?_;with_reducible refine sxE ?_
 refine z2B (ty:=CipT) 4 0 0 0 rfl rfl rfl (Nat.succ_pos _) (show 1<=1125899906842624 by decide) ?_ ?_ ?_
 . with_reducible refine sxE ?_;trivial
 . with_reducible refine sxE ?_;trivial
 with_reducible refine sxE ?_
 refine gQ ?_;simp [SV.leV]
theorem z0K(key b:List UInt8)(hb:b.length=16):PC Tryz.prog 267 [.iptr CipT (cipS key) 0,.isl .u8 b] (rI 0):=by have f1:(((b.length:Nat):Int)=16)=True:=eq_true (by omega);unfold cipS;refine q0q rfl rfl ?_;refine ry1 fi267 f1 ?_;trivial
def rotS:∀n:Nat,n<32->1<=n->andK .u64 (IntKind.u64.wrap (-(n:Int))) 31=((32-n:Nat):Int):=by decide
def rotU:∀n:Nat,n<32->1<=n->IntKind.u64.wrap (32- ((32-n:Nat):Int))=(n:Int):=by decide
def j5r(m n:Nat)(h1:1<=n)(h2:n<=31)(hm:m<4294967296):((BitVec.ofInt 32 (IntKind.u32.wrap ((m:Int)*2^ (32-n))) |||BitVec.ofInt 32 ((m:Int).fdiv (2^ n))).toNat:Int)=rotW n m:=by
 have e1:IntKind.u32.wrap ((m:Int)*2^ (32-n))=((m*2^ (32-n)%4294967296:Nat):Int):=by have h:∀y:Int,IntKind.u32.wrap y=y%4294967296:=fun y=>rfl;rw [h];simp
 have e2:((m:Int).fdiv (2^ n))=((m / 2^ n:Nat):Int):=by rw [Be _ (by exact_mod_cast Al (2^ n))];simp
 have h4:m*2^ (32-n)%4294967296=2^ (32-n)* (m%2^ n):=by
  have:(4294967296:Nat)=2^ n*2^ (32-n):=by rw [<-CY,show n+ (32-n)=32 by omega]
  rw [this,Nat.mul_mod_mul_right,Nat.mul_comm]
 have hm':m<2^ n*2^ (32-n):=by rw [<-CY,show n+ (32-n)=32 by omega];omega
 have h3:m / 2^ n<2^ (32-n):=Nat.div_lt_of_lt_mul hm';have h5:m / 2^ n<=m:=Nat.div_le_self _ _;have h6:m*2^ (32-n)%4294967296<4294967296:=Dc _ (by decide);rw [e1,e2,Cq,AO,AO,AU,AU,AV (a:=m*2^ (32-n)%4294967296) (b:=2^ 32) h6,AV (a:=m / 2^ n) (b:=2^ 32) (Nat.lt_of_le_of_lt h5 hm),h4,<-CL h3];unfold rotW;have e3:((m:Int)*2^ (32-n)%4294967296)=((m*2^ (32-n)%4294967296:Nat):Int):=by simp
 have e4:((m:Int) / 2^ n)=((m / 2^ n:Nat):Int):=by simp
 rw [e3,e4,h4,Int.natCast_add,Int.add_comm]
def j5k(x:Int)(n:Nat)(h1:1<=n)(h2:n<=31)(hx:inW x):PC Tryz.prog 302 [.raw (.int .u32 x),.raw (.int .i64 (-(n:Int)))] (.raw (.int .u32 (rotW n x))):=by
 have e0:=rotS n (by omega) h1;have e5:=rotU n (by omega) h1;refine q0q rfl rfl ?_;refine rQ fi302 ?_;unfold orK;rw [e0,e5,Az,Az,Bj (by omega),Bj (by omega)];obtain ⟨m,rfl⟩:∃m:Nat,x=m:=⟨x.toNat,by omega⟩
 refine ⟨by omega,?_⟩;have h:=j5r m n h1 h2 (by omega);have hw:=q3n h1 h2 hx;refine congrArg (Value.int .u32) ?_;refine (congrArg IntKind.u32.wrap h).trans (w32 hw)
def turnS(x:Int)(ns:List Nat):Nat->Int
 |0=>0
 |i+1=>xorW (turnS x ns i) (rotW (ns.getD i 1) x)
def z3j{x:Int}{ns:List Nat}(hx:inW x)(hn:∀n∈ns,1<=n∧n<=31):∀i,inW (turnS x ns i)
 |0=>by simp [turnS,inW]
 |i+1=>by
  have h:1<=ns.getD i 1∧ns.getD i 1<=31:=by
   rcases AI i ns.length with h|h
   . rw [Aa,Ac h];exact hn _ (Bu _)
   rw [Aa,AW h];decide
  exact q7N (z3j hx hn i) (q3n h.1 h.2 hx)
def q0M(x:Int)(ns:List Nat)(hx:inW x)(hn:∀n∈ns,1<=n∧n<=31)(hl:ns.length<=64):PC Tryz.prog 299 [.raw (.int .u32 x),.isl (.int .i64) (ns.map fun (n:Nat)=>(n:Int))] (.raw (.int .u32 (turnS x ns ns.length))):=by
 refine q0q rfl rfl ?_;have hml:(ns.map fun (n:Nat)=>(n:Int)).length=ns.length:=AX ..;refine rQ fi299 ?_;refine q0k (ι:=Nat) (fun i=>[(4,.raw (.int .u32 (turnS x ns i))),(9,rI i)]) (fun i=>[]) (fun i=>ns.length-i) (fun i=>i<=ns.length) 0 (Al _) rfl ?_ ?_
 . with_reducible refine sxE ?_
   rfl
 intro i hi;have hwr:=wsx i (by omega);by_cases h:i<ns.length
 . have hg:(ns.map fun (n:Nat)=>(n:Int)).getD i 0=((ns.getD i 1:Nat):Int):=by rw [Aa,Ac (by omega),Aa,Ac h];simp
   have hr:1<=ns.getD i 1∧ns.getD i 1<=31:=by rw [Aa,Ac h];exact hn _ (Bu _)
   have hneg:IntKind.i64.wrap (0- ((ns.getD i 1:Nat):Int))= -((ns.getD i 1:Nat):Int):=by rw [IntWalk.i64_in _ (by omega)];omega
   refine gyd4 hml hg hneg Ae ?_;refine ⟨fun _=>⟨⟨by omega,h⟩,q0a (j5k _ _ hr.1 hr.2 hx) ?_⟩,fun hh=>absurd h hh⟩;have hxi:=z3j hx hn i;have hxo:=xor32 hxi (q3n hr.1 hr.2 hx);refine gy1 hxo ?_;refine ⟨i+1,h,by dsimp only;omega,rfl,?_⟩;with_reducible refine sx1 hwr ?_
   rfl
 obtain rfl:i=ns.length:=by omega
 refine gy1 hml ?_;exact ⟨fun h=>absurd h (by omega),fun _=>trivial⟩
def byteU(x:Int)(m:Nat)(hx:inW x)(hm:m<=32):UInt8.ofNat (IntKind.u8.wrap (x.fdiv (2^ min m 32))).toNat=UInt8.ofNat (x.toNat / 2^ m%256):=by
 obtain ⟨n,rfl⟩:∃n:Nat,x=n:=⟨x.toNat,by omega⟩
 have e:((n:Int).fdiv (2^ m))=((n / 2^ m:Nat):Int):=by rw [Be _ (by exact_mod_cast Al (2^ m))];simp
 rw [Bj hm,e,Az];generalize n / 2^ m=m;rw [u8wrapR];congr 1
def byteU0(x:Int)(hx:inW x):UInt8.ofNat (IntKind.u8.wrap x).toNat=UInt8.ofNat (x.toNat / 2^ 0%256):=by rw [u8wrapR];congr 1;rw [Nat.pow_zero,Nat.div_one];omega
def wordB4(h:List Int)(i j:Nat)(hj:j<4):wordB h (4*i+j)=UInt8.ofNat ((h.getD i 0).toNat / 2^ (24-8*j)%256):=by unfold wordB;rw [show (4*i+j) / 4=i by omega,show (4*i+j)%4=j by omega]
theorem bytesP4(h:List Int)(hi:i<8):((((bytesP h (4*i)).set (4*i) (UInt8.ofNat ((h.getD i 0).toNat / 2^ 24%256))).set (4*i+1) (UInt8.ofNat ((h.getD i 0).toNat / 2^ 16%256))).set (4*i+2) (UInt8.ofNat ((h.getD i 0).toNat / 2^ 8%256))).set (4*i+3) (UInt8.ofNat ((h.getD i 0).toNat / 2^ 0%256))=bytesP h (4* (i+1)):=by
 rw [show UInt8.ofNat ((h.getD i 0).toNat / 2^ 24%256)=wordB h (4*i) from (wordB4 h i 0 (by decide)).symm,q4a h (by omega),
  show UInt8.ofNat ((h.getD i 0).toNat / 2^ 16%256)=wordB h (4*i+1) from (wordB4 h i 1 (by decide)).symm,q4a h (by omega),
  show UInt8.ofNat ((h.getD i 0).toNat / 2^ 8%256)=wordB h (4*i+2) from (wordB4 h i 2 (by decide)).symm,q4a h (by omega),
  show UInt8.ofNat ((h.getD i 0).toNat / 2^ 0%256)=wordB h (4*i+3) from (wordB4 h i 3 (by decide)).symm,q4a h (by omega)]
 rfl
theorem z7p(h:List Int)(hh:inWs h):PC Tryz.prog 293 [.dat (.arr 8 (.int .u32)) h] (.dat (.arr 32 .u8) (bytesS h)):=by
 refine q0q rfl rfl ?_;refine rQ fi293 ?_;have hl:=hh.1;have htk:List.take 8 h=h:=Ad (by omega);refine ⟨by omega,?_⟩;rw [htk];refine q0k (ι:=Nat) (fun i=>[(6,rI i)]) (fun i=>[.row (.int .u32) h,.row .u8 (bytesP h (4*i))]) (fun i=>8-i) (fun i=>i<=8) 0 (Al _) rfl ?_ ?_
 . with_reducible refine sxE ?_;trivial
 intro i hi;have hwr:=wsx i (by omega);have hbl:=q8C h (4*i);by_cases h8:i<8
 . have hx:=q0j hh i h8;have w0:IntKind.i64.wrap (4* (i:Int))=((4*i:Nat):Int):=by rw [wrapi (by omega)];omega
   have w1:IntKind.i64.wrap (((4*i:Nat):Int)+1)=((4*i+1:Nat):Int):=q1w (by omega);have w2:IntKind.i64.wrap (((4*i:Nat):Int)+2)=((4*i+2:Nat):Int):=by rw [wrapi (by omega)];omega
   have w3:IntKind.i64.wrap (((4*i:Nat):Int)+3)=((4*i+3:Nat):Int):=by rw [wrapi (by omega)];omega
   refine uQ 600 _ ?_;simp (maxSteps:=3000000) only [hl,hbl,w0,w1,w2,w3,Bk,Ae,Ty.dflt,go_sem,↓zA,↓reduceIte,↓reduceDIte] <;>try simp only [zB]
   refine ⟨fun _=>⟨⟨by omega,by omega⟩,⟨by omega,by omega⟩,⟨by omega,q2K _⟩,⟨by omega,by omega⟩,⟨by omega,q2K _⟩,⟨by omega,by omega⟩,⟨by omega,q2K _⟩,⟨by omega,by omega⟩,⟨by omega,q2K _⟩,i+1,h8,by dsimp only;omega,?_,?_⟩,fun h=>absurd h (by omega)⟩
   . rw [byteU _ 24 hx (by decide),byteU _ 16 hx (by decide),byteU _ 8 hx (by decide),byteU0 _ hx];show _= [SObj.row (.int .u32) h,SObj.row .u8 (bytesP h (4* (i+1)))];rw [<-bytesP4 h h8]
   with_reducible refine sx1 hwr ?_;trivial
 obtain rfl:i=8:=by omega
 refine gy3 hl hbl Ae ?_;refine ⟨fun h=>absurd h (by omega),fun _=> ?_⟩;have e:List.take 32 (bytesP h 32)++List.drop (List.take 32 (bytesP h 32)).length (bytesP h 32)=bytesS h:=by have hbl:(bytesP h 32).length=32:=q8C h 32;rw [Ad (by omega),hbl,A2 (by omega),Ah,z5q]
 have el:(bytesS h).length=32:=q1f _;rw [e,if_pos el];exact ⟨_,rfl,rfl⟩
end Go.Proofs.YthbcodbcndiapaaGreatDoor