/- A part of the proof: a symbolic executor over abstract values, and its soundness. -/
import Derived.Test.YtmapiojgmbgbgaaGreatDoorQ26
set_option linter.all false
namespace Go.Sx
open Go

variable {P:Program} {AQ:Ex→List SV→List SObj→Prop} {k0:Nat} {k:List It} {t:List SV} {H:List SObj}

def putL:List Tmp→List SV→List SV→List SV
 |p :: ps,s :: l,t=>putL ps l (t.set p s)
 |_,_,t=>t
theorem z1f{C:Cx}:∀ (ps:List Tmp) (l:List SV) (vs:List Value) (t:List SV) (us:Array Value),SV.denL C l vs→SV.denL C t us.toList→SV.denL C (putL ps l t) ((ps.zip vs).foldl (fun tm x=>tm.setIfInBounds x.1 x.2) us).toList
 | [],_,_,_,_,_,ht=>by simpa [putL] using ht
 |p :: ps,[],vs,t,us,hl,ht=>by rw [q0C] at hl;subst hl;simpa [putL] using ht
 |p :: ps,s :: l,vs,t,us,hl,ht=>by
  obtain ⟨v,vs',rfl,h1,h2⟩:=q0e.1 hl;simp only [putL,List.zip_cons_cons,Bw];exact z1f ps l vs' _ _ h2 (by rw [CN];exact q3I ht h1)
theorem j1O{C:Cx}{ps:Array Tmp}{l:List SV}{vs:List Value}{t:List SV}{us:Array Value}(hl:SV.denL C l vs)(ht:SV.denL C t us.toList):SV.denL C (putL ps.toList l t) ((ps.zip vs.toArray).foldl (fun tm (p,v)=>tm.setIfInBounds p v) us).toList:=by
 have:=z1f ps.toList l vs t us hl ht;rw [←CO,Array.toList_zip];exact this

theorem Fr.congr{Q:Nat→Prop}{A A' B B':Cx}(h:Fr Q A B)(e1:A'.w=A.w)(i1:∀b,A'.I b ↔ A.I b)(e2:B'.w=B.w)(i2:∀b,B'.I b ↔ B.I b):Fr Q A' B' where
 size:=by rw [e1,e2];exact h.size
 os:=by rw [e1,e2];exact h.os
 tape:=by rw [e1,e2];exact h.tape
 output:=by rw [e1,e2];exact h.output
 keep:=fun b hb=>⟨(i2 b).2 (h.keep b ((i1 b).1 hb)).1,by rw [e1,e2];exact (h.keep b ((i1 b).1 hb)).2⟩
 sz:=by rw [e1,e2];exact h.sz
 frame:=by rw [e1,e2];exact h.frame
 imm:=fun b hb=>by rw [e1,e2];exact (h.imm b ((i2 b).1 hb)).imp (i1 b).2 id
theorem j6B{Q:Nat→Prop}{C C':Cx}(hw:Wd C H)(hf:Fr Q C C')(hq:∀b,OwnB C H b→¬Q b)(hr:C'.ρ=C.ρ)(hn:C'.n=C.n)(hi:∀b,C'.I b→b<C'.w.heap.size):Wd C' H∧Evo C C':=by
 have he:Evo C C':=⟨by rw [hn];exact Ag _,fun h _=>by rw [hr],hf.keep,hf.sz⟩
 have hown:∀b,OwnB C' H b→OwnB C H b:=fun b ⟨h,o,ho,hl,hb⟩=>⟨h,o,ho,hl,by rw [←hr];exact hb⟩
 refine ⟨⟨by rw [hn];exact hw.n,fun h o ho=> ?_,fun b hb=> ?_,fun h h' o o' b h1 h2 h3 h4 h5 h6=>hw.inj h h' o o' b h1 h2 h3 h4 (by rw [←hr];exact h5) (by rw [←hr];exact h6),hi⟩,he⟩
 · by_cases hl:o.live=true
   · exact q0H he.I h (by rw [hr]) (fun b hb=>hf.frame b (hw.own b ⟨h,o,ho,hl,hb⟩).2 (hq b ⟨h,o,ho,hl,hb⟩)) (q0j he) (hw.obj h o ho)
   cases o<;>first|trivial|simp [SObj.live] at hl
 have h1:=hown b hb;have h2:=hw.own b h1;exact ⟨fun hi=>(hf.imm b hi).elim h2.1 fun ⟨x,_⟩=>x.elim (fun y=>absurd h2.2 (AU.2 y)) (hq b h1),An h2.2 hf.size⟩
theorem z5i{C:Cx}{i j:Nat}{T:List SObj}{b:Nat}(h:OwnB C (.mark i :: T) b):OwnB C (.mark j :: T) b:=by
 obtain ⟨x,o,ho,hl,hb⟩:=h;cases x with
 |zero=>simp at ho;subst ho;simp [SObj.live] at hl
 |succ x=>exact ⟨x+1,o,by simpa using ho,hl,hb⟩
theorem j3B{C:Cx}{i j:Nat}{T:List SObj}(h:Wd C (.mark i :: T)):Wd C (.mark j :: T):=by
 have hget:∀ {x:Nat} {o:SObj},(SObj.mark j :: T)[x]?=some o→o.live=true→(SObj.mark i :: T)[x]?=some o:=fun {x o} ho hl=>by
  cases x with
  |zero=>simp at ho;subst ho;simp [SObj.live] at hl
  |succ x=>simpa using ho
 refine ⟨h.n,fun x o ho=> ?_,fun b hb=>h.own b (z5i hb),fun x x' o o' b h1 h2 h3 h4=>h.inj x x' o o' b (hget h1 h3) (hget h2 h4) h3 h4,h.imm⟩;by_cases hl:o.live=true
 · exact h.obj x o (hget ho hl)
 cases o<;>first|trivial|simp [SObj.live] at hl

structure Cal (g:FG) (E:EnD) (Ds:List Nat) (t:List SV) (tms:List Value) (l:Nat) (o:Obj) (C:Cx) (H:List SObj) (S:Nat→Prop):Prop where
 wd:Wd C H
 ext:Ext E.toEn C H
 core:g.core E C H S
 tmps:SV.denL C t tms
 marks:∀D∈Ds,MarkOk E.toEn C H D
 lne:l ∉ Ds
 lsz:E.C.w.heap.size≤l
 limm:¬C.I l
 lown:¬OwnB C H l
 lat:C.w.heap[l]?=some o
 lfar:far o
 tab:TabE E.toEn C H
def calS(Ds:List Nat)(l:Nat)(C:Cx)(H:List SObj)(S:Nat→Prop)(b:Nat):Prop:=OwnB C H b∨S b∨b=l∨b∈Ds
variable {g:FG} {E:EnD} {Ds:List Nat} {tms:List Value} {l:Nat} {o:Obj} {C:Cx} {S:Nat→Prop}

theorem Cal.fp(h:Cal g E Ds t tms l o C H S){b:Nat}(hb:calS Ds l C H S b):¬C.I b∧b<C.w.heap.size:=by
 rcases hb with x|x|x|x
 · exact h.wd.own b x
 · exact ⟨(g.perm h.core x).2.1,(g.perm h.core x).2.2.2⟩
 · subst x;exact ⟨h.limm,(AD.1 h.lat).1⟩
 exact ⟨(h.marks b x).imm,(AD.1 (h.marks b x).at_).1⟩
theorem Cal.abide{B:Nat}{w':World}{I':Nat→Prop}(h:Cal g E Ds t tms l o C H S)(hB:E.C.w.heap.size≤B)(hs:C.w.heap.size≤w'.heap.size)(hf:∀b,b<C.w.heap.size→(b<B∨calS Ds l C H S b∨C.I b)→w'.heap[b]?=C.w.heap[b]?)
 (h1:w'.os=C.w.os)(h2:w'.tape=C.w.tape)(h3:w'.output=C.w.output)(hz:∀b m,World.bsize C.w b=some m→World.bsize w' b=some m)(hI:∀b,C.I b→I' b)(hI':∀b,I' b→C.I b∨(B≤b∧¬calS Ds l C H S b∧Unf w' b))(hlt:∀b,I' b→b<w'.heap.size):
 Cal g E Ds t tms l o {C with w:=w',I:=I'} H S:=by
 have hk:Keeps C.I I' C.w w':=fun b hb=>⟨hI b hb,hf b (h.wd.imm b hb) (.inr (.inr hb))⟩;have he:Evo C {C with w:=w',I:=I'}:=⟨Ag _,fun _ _=>rfl,hk,hz⟩
 refine ⟨⟨h.wd.n,fun x o ho=> ?_,fun b hb=> ?_,h.wd.inj,hlt⟩,⟨h.ext.evo.trans he,Am h.ext.size hs,h1.trans h.ext.os,h2.trans h.ext.tape,h3.trans h.ext.output,fun b hb hn=> ?_,fun b hb=> ?_,h.ext.ownNew,h.ext.keep0⟩,?_,q0j he h.tmps,fun D hD=> ?_,h.lne,h.lsz,?_,h.lown,?_,h.lfar,⟨h.tab.tab.keep hk fun b hT hb ho=>⟨An hb hs,ho,hf b hb (.inl (An (h.tab.old b hT) hB))⟩,h.tab.old⟩⟩
 · by_cases hl:o.live=true
   · exact q0H (C':={C with w:=w',I:=I'}) hk x rfl (fun b hb=>hf b (h.wd.own b ⟨x,o,ho,hl,hb⟩).2 (.inr (.inl (.inl ⟨x,o,ho,hl,hb⟩)))) (q0j he) (h.wd.obj x o ho)
   cases o<;>first|trivial|simp [SObj.live] at hl
 · have:=h.wd.own b hb;exact ⟨fun hi=>(hI' b hi).elim this.1 fun y=>y.2.1 (.inl hb),An this.2 hs⟩
 · exact (hf b (An hb h.ext.size) (.inl (An hb hB))).trans (h.ext.frame b hb hn)
 · rcases hI' b hb with x|x
   · exact orMap (h.ext.immNew b x) id fun ⟨y,u⟩=>⟨y,u.keep (hk b x).2⟩
   exact .inr ⟨.inl (Am hB x.1),x.2.2⟩
 · refine g.abide h.core hs (fun b hb hc=>hf b hb ?_) (fun b hb=>(hk b hb).2) h1 h2 h3 hz hI fun b hb=>orMap (hI' b hb) id fun x=>⟨Am hB x.1,fun y=>x.2.1 (.inr (.inl y)),fun y=>x.2.1 (.inl y),x.2.2⟩;rcases hc with x|x|x|x
   · exact .inl (An x hB)
   · exact .inr (.inl (.inr (.inl x)))
   · exact .inr (.inr x)
   exact .inr (.inl (.inl x))
 · have m:=h.marks D hD;exact ⟨m.sz,fun hi=>(hI' D hi).elim m.imm fun y=>y.2.1 (.inr (.inr (.inr hD))),m.own,(hf D (AD.1 m.at_).1 (.inr (.inl (.inr (.inr (.inr hD)))))).trans m.at_⟩
 · exact fun hi=>(hI' l hi).elim h.limm fun y=>y.2.1 (.inr (.inr (.inl rfl)))
 exact (hf l (AD.1 h.lat).1 (.inr (.inl (.inr (.inr (.inl rfl)))))).trans h.lat
theorem Cal.chg(h:Cal g E Ds t tms l o C H S){o':Obj}(ho:far o'):Cal g E Ds t tms l o' (chgC C l o') H S:=by
 have hf:FarAt C.w l:=⟨o,h.lat,h.lfar⟩;refine ⟨j5h h.wd h.limm h.lown hf,j4D h.ext h.limm hf h.lsz,g.chg h.core h.lsz h.limm h.lown hf,q0j (q7L h.limm hf) h.tmps,fun D hD=> ?_,h.lne,h.lsz,h.limm,h.lown,j3j h.lat,ho,⟨h.tab.tab.keep (q7L h.limm hf).I fun b hT hb ho=>⟨by rw [q3U];exact hb,ho,q1m fun e=>absurd (h.tab.old b hT) (AU.2 (e▸h.lsz))⟩,h.tab.old⟩⟩
 have m:=h.marks D hD;exact ⟨m.sz,m.imm,m.own,(q1m (D:=l) fun e=>h.lne (e▸hD)).trans m.at_⟩

def exC:Ex→Option Code
 |.ret=>some .ret
 |.exit id=>some (.exit id)
 |_=>none
def rfAt(N:Nat)(Hs:Nat→List SObj→Prop)(X:Nat→Ex→List SObj→Prop)(rec:LoopState→Option Code→Loop)(m:Nat)(H:List SObj)(o:Obj):Prop:=
 (m≤N∧Hs m H∧o= .loop (rec .ready none))∨∃i ex c,m=N+1+i∧i<N∧X i ex H∧exC ex=some c∧o= .loop (rec .done (some c))
def rfJ(g:FG)(E:EnD)(Ds:List Nat)(t:List SV)(tms:List Value)(l N:Nat)(Hs:Nat→List SObj→Prop)(X:Nat→Ex→List SObj→Prop)(rec:LoopState→Option Code→Loop)(m:Nat)(S:Nat→Prop)(w:World)(I:Nat→Prop):Prop:=
 ∃ (C:Cx) (S0:Nat→Prop) (H:List SObj) (o:Obj),C.w=w∧(∀b,C.I b ↔ I b∧b<w.heap.size)∧Cal g E Ds t tms l o C H S0∧(∀b,S b ↔ calS Ds l C H S0 b)∧rfAt N Hs X rec m H o
theorem j5o{N B:Nat}{Hs:Nat→List SObj→Prop}{X:Nat→Ex→List SObj→Prop}{rec:LoopState→Option Code→Loop}(hB:E.C.w.heap.size≤B)(hl:l<B)(hD:∀D∈Ds,D<B):FJ B (rfJ g E Ds t tms l N Hs X rec) where
 abide:=by
  rintro m S w I w' I' ⟨C,S0,H,o,rfl,hI,hc,hS,hat⟩ hs hf hkI h1 h2 h3 hz hi hi';refine ⟨{C with w:=w',I:=fun b=>I' b∧b<w'.heap.size},S0,H,o,rfl,fun b=>Iff.rfl,hc.abide hB hs (fun b hb hx=>hf b hb ?_) h1 h2 h3 hz (fun b hb=>⟨hi b ((hI b).1 hb).1,An ((hI b).1 hb).2 hs⟩) (fun b hb=> ?_) (fun b hb=>hb.2),hS,hat⟩
  · rcases hx with x|x|x
    · exact .inl x
    · exact .inr (.inl ((hS b).2 x))
    exact .inr (.inr ((hI b).1 x).1)
  rcases hi' b hb.1 with x|x
  · rcases AC b C.w.heap.size with y|y
    · exact .inl ((hI b).2 ⟨x,y⟩)
    have hn:=hkI b x;rw [Bt y] at hn;exact absurd hb.2 (AU.2 (Array.getElem?_eq_none_iff.1 hn))
  exact .inr ⟨x.1,fun y=>x.2.1 ((hS b).2 y),x.2.2⟩
 fp:=by
  rintro m S w I b ⟨C,S0,H,o,rfl,hI,hc,hS,hat⟩ hb;have:=hc.fp ((hS b).1 hb);exact ⟨fun hi=>this.1 ((hI b).2 ⟨hi,this.2⟩),this.2⟩
 nt:=by
  rintro m S w I b ⟨C,S0,H,o,rfl,hI,hc,hS,hat⟩ hb hT;rcases (hS b).1 hb with x|x|x|x
  · exact hc.tab.tab.own b hT x
  · exact g.nt hc.core x hT
  · exact absurd (hc.tab.old b hT) (AU.2 (x▸hc.lsz))
  exact absurd (hc.tab.old b hT) (AU.2 (hc.marks b x).sz)
 lo:=by
  rintro m S w I b ⟨C,S0,H,o,rfl,hI,hc,hS,hat⟩ hb hf;rcases (hS b).1 hb with x|x|x|x
  · exact absurd hf (z5B hc.wd x)
  · exact An (g.lo hc.core x hf) hB
  · subst x;exact hl
  exact hD b x
end Go.Sx
namespace Go.Sx
open Go

variable {P:Program} {AQ:Ex→List SV→List SObj→Prop} {k0:Nat} {k:List It} {t:List SV} {H:List SObj}
variable {g:FG} {E:EnD} {Ds:List Nat} {tms:List Value} {l:Nat} {o:Obj} {C C':Cx} {H':List SObj} {S S':Nat→Prop}

def calL(Ds:List Nat)(l:Nat)(o:Obj):List (Nat×Obj):=(l,o) :: Ds.map fun D=>(D,.deferred (some []))
theorem Cal.pins(h:Cal g E Ds t tms l o C H S):Pins (calL Ds l o) C H S:=by
 intro x hx;rcases Bi.1 hx with rfl|hx
 · exact ⟨h.limm,h.lown,fun hs=>absurd (g.lo h.core hs ⟨o,h.lat,h.lfar⟩) (AU.2 h.lsz),h.lat,h.lfar⟩
 obtain ⟨D,hD,rfl⟩:=Bl.1 hx;have m:=h.marks D hD;exact ⟨m.imm,m.own,fun hs=>absurd (g.lo h.core hs m.far) (AU.2 m.sz),m.at_,trivial⟩
theorem Cal.run(h:Cal g E Ds t tms l o C H S)(hx:Ext (startE g.um S C H).toEn C' H')(hw:Wd C' H')(hcore:g.core (startE g.um S C H) C' H' S')(hp:Pins (calL Ds l o) C' H' S'):Cal g E Ds t tms l o C' H' S':=by
 obtain ⟨q1,q2,q3,q4,q5⟩:=hp (l,o) (by simp [calL])
 refine ⟨hw,z1W h.wd h.ext (fun b hb=>(g.perm h.core hb).1) (fun hu=>g.unm hu h.core) hx,g.back h.wd h.core hx hcore,q0j (q4F hx.evo) h.tmps,fun D hD=> ?_,h.lne,h.lsz,q1,q2,q4,q5,⟨(q8I h.wd.n h.tab.tab fun b hb=>g.nt h.core hb).next hx,h.tab.old⟩⟩
 obtain ⟨p1,p2,p3,p4,p5⟩:=hp (D,.deferred (some [])) (by simp [calL];exact .inr hD)
 exact ⟨(h.marks D hD).sz,p1,p2,p4⟩

def RQ(Hs:Nat→List SObj→Prop)(X:Nat→Ex→List SObj→Prop)(i:Nat):Ex→List SV→List SObj→Prop
 |.normal,_,H'=>Hs (i+1) H'
 |.ret,_,H'=>X i .ret H'
 |.exit id,_,H'=>X i (.exit id) H'
 |.pan _,_,_=>False
structure RfOk (P:Program) (g:FG) (ps:Array Tmp) (assign body:Code) (t:List SV) (N:Nat) (vw:Nat→Nat→List SV→List SObj→Prop) (Hs:Nat→List SObj→Prop) (X:Nat→Ex→List SObj→Prop):Prop where
 len:∀i n args' new,vw i n args' new→args'.length=ps.size
 round:∀i Hi args' new,i<N→Hs i Hi→vw i Hi.length args' new→∀L1 L2,∃Φ,(∀t' H',Φ t' H'→ @Sound (pinG g L2) P (RQ Hs X i) ⟨H'.length,[.code body],t',H'⟩)∧
  @Sound (pinG g L1) P (fun _ _ _=>False) ⟨(Hi++new).length,[.code assign,.stop Φ],putL ps.toList args' t,Hi++new⟩
@[reducible] def rfRec(fn:FuncId)(us:Array Value)(ps:Array Tmp)(assign body:Code)(D:Nat)(st:LoopState)(pe:Option Code):Loop:={state:=st,pending:=pe,fn,tmps:=us,params:=ps,assign,body,defers:=D}

theorem z6h{ps:Array Tmp}{assign body:Code}{N B:Nat}{vw:Nat→Nat→List SV→List SObj→Prop}{Hs:Nat→List SObj→Prop}{X:Nat→Ex→List SObj→Prop}{fn:FuncId}{us:Array Value}{D:Nat}
 (hr:RfOk P g ps assign body t N vw Hs X)(hB:E.C.w.heap.size≤B):YG P l B N (rfJ g E Ds t us.toList l N Hs X (rfRec fn us ps assign body D)) vw:=by
 rintro i T T' args C S vs hi hw ⟨Cc,S0,Hm,o,e1,hI,hc,hS,hst⟩ hown hv hh;obtain ⟨hHs,rfl⟩:Hs i Hm∧o= .loop (rfRec fn us ps assign body D .ready none):=by
  rcases hst with ⟨_,h1,h2⟩ | ⟨i',_,_,h,_⟩
  · exact ⟨h1,h2⟩
  omega
 have hI':∀b,Cc.I b ↔ C.I b:=fun b=>(hI b).trans ⟨fun h=>h.1,fun h=>⟨h,hw.imm b h⟩⟩;obtain ⟨args',new,hvw,hhand⟩:=hh Hm.length;have hsep:∀b,OwnB C (.mark i :: T) b→¬calS Ds l Cc Hm S0 b:=fun b hb h=>(hown b hb).2 ((hS b).2 h);obtain ⟨C2,Cc2,a1,a2,a3,a4,a5,b1,b2,b3,b4,b5,b6⟩:=hhand C Cc Hm vs hw hv hc.wd rfl e1 hI' (fun b hb hcb=>hsep b hb (.inl hcb));have e2:Cc2.w=Cc.w:=b1.trans e1.symm;have hown2:∀b,OwnB Cc2 (Hm++new) b→OwnB Cc Hm b∨(E.C.w.heap.size≤b∧OwnB C (.mark i :: T) b∧¬OwnB C2 (.mark i :: T') b):=fun b hb=>orMap (b6 b hb) id fun h=>⟨Am hB (hown b h.1).1,h⟩;have hc2:Cal g E Ds t us.toList l (.loop (rfRec fn us ps assign body D .ready none)) Cc2 (Hm++new) S0:=by
  refine ⟨b3,⟨hc.ext.evo.trans b4,by rw [e2];exact hc.ext.size,by rw [e2];exact hc.ext.os,by rw [e2];exact hc.ext.tape,by rw [e2];exact hc.ext.output,fun b h1 h2=>by rw [e2];exact hc.ext.frame b h1 h2,fun b hb=> ?_,fun b hb=> ?_,fun m h0 hm=>q5F (hc.ext.keep0 m h0 hm)⟩,?_,q0j b4 hc.tmps,fun D' hD=> ?_,hc.lne,hc.lsz,by rw [b2];exact hc.limm,fun ho=> ?_,by rw [e2];exact hc.lat,hc.lfar,⟨hc.tab.tab.keep b4.I fun b hT hb ho=>⟨by rw [e2];exact hb,fun x=>(hown2 b x).elim ho fun y=>absurd (hc.tab.old b hT) (AU.2 y.1),by rw [e2]⟩,hc.tab.old⟩⟩
  · rw [b2] at hb;rw [e2];exact hc.ext.immNew b hb
  · exact (hown2 b hb).elim (hc.ext.ownNew b) fun x=>.inl x.1
  · exact g.own hc.wd e2 (fun b h=>by rw [b2];exact h) (fun b h=>by rw [b2] at h;exact .inl h) (fun b hb=>orMap (hown2 b hb) id fun x=>⟨x.1,fun h=>hsep b x.2.1 (.inr (.inl h))⟩) (fun m _ hm=>q5F hm) (Am hc.ext.evo.n b4.n) hc.core
  · have m:=hc.marks D' hD;exact ⟨m.sz,by rw [b2];exact m.imm,fun ho=>(hown2 D' ho).elim m.own fun x=>hsep D' x.2.1 (.inr (.inr (.inr hD))),by rw [e2];exact m.at_⟩
  exact (hown2 l ho).elim hc.lown fun x=>hsep l x.2.1 (.inr (.inr (.inl rfl)))
 have hn2:Cc2.n=(Hm++new).length:=b3.n;have hlc:C.w.heap[l]?=some (.loop (rfRec fn us ps assign body D .ready none)):=by rw [←e1];exact hc.lat
 have hvl:vs.toArray.size=ps.size:=by have:=q0E b5;rw [AT,this,hr.len _ _ _ _ hvw]
 refine ⟨fn,_,assign,body,run_yield (P:=P) hlc hvl,fun r n=>roundIn_of_wpIn (q6g r fn) ?_⟩;have hd1: @Den (pinG g (calL Ds l (.loop (rfRec fn us ps assign body D .ready none)))) (startE g.um S0 Cc2 (Hm++new)) Cc2 (putL ps.toList args' t) (Hm++new) {tmps:=(ps.zip vs.toArray).foldl (fun tm (p,v)=>tm.setIfInBounds p v) us,defers:=[]}:=
  ⟨b3,q6f hn2,⟨rfl,⟨hc2.tab.tab,hc2.tab.tab.lt⟩,S0,g.start b3 hc2.core,hc2.pins⟩,j1O b5 hc2.tmps⟩
 obtain ⟨Φ,hbody,hasg⟩:=hr.round i Hm args' new hi hHs hvw (calL Ds l (.loop (rfRec fn us ps assign body D .ready none))) (calL Ds l (.loop (rfRec fn us ps assign body D .busy none)));have h1:=hasg (startE g.um S0 Cc2 (Hm++new)) (some l) n Cc2 _ ⟨CZ hn2,trivial⟩ hd1;simp only [wpT] at h1;refine wpIn_mono (by rw [←b1];exact h1) fun e a w hq=> ?_
 clear h1;cases e with
 |exit id=>simp only [exitT] at hq;obtain ⟨_,_,_,h,_⟩:=hq;exact h.elim
 |ret=>obtain ⟨_,_,_,h,_⟩:=hq;exact h.elim
 |panic ch=>obtain ⟨_,_,_,_,_,h,_⟩:=hq;exact h.elim
 |goto _=>exact hq.elim
 |outgrown=>exact hq.elim
 |normal=>
  obtain ⟨C',t',H',hΦ,rfl,hd⟩:=hq;obtain ⟨hdf,_,S1,hcore1,hp1⟩:=hd.defs;have hcal1:=hc2.run hd.ext hd.wd hcore1 hp1;have hfar1:FarAt C'.w l:=⟨_,hcal1.lat,hcal1.lfar⟩;have hcal2:=hcal1.chg (o':=.loop (rfRec fn us ps assign body D .busy none)) trivial;refine ⟨_,run_beginRound hcal1.lat rfl,?_⟩;have hd2: @Den (pinG g (calL Ds l (.loop (rfRec fn us ps assign body D .busy none)))) (startE g.um S1 (chgC C' l (.loop (rfRec fn us ps assign body D .busy none))) H') (chgC C' l (.loop (rfRec fn us ps assign body D .busy none))) t' H' a:=
   ⟨hcal2.wd,q6f hcal2.wd.n,⟨hdf,⟨hcal2.tab.tab,hcal2.tab.tab.lt⟩,S1,g.start hcal2.wd hcal2.core,hcal2.pins⟩,q0j (q7L hcal1.limm hfar1) hd.tmps⟩
  have h2:=hbody _ _ hΦ _ (some l) n _ a ⟨CZ hcal2.wd.n,trivial⟩ hd2;simp only [wpT] at h2;refine wpIn_mono h2 fun e3 a9 w3 hq3=> ?_;clear h2;have fin:∀ {C3:Cx} {t3:List SV} {H3:List SObj} (jump:Option Code), @DenF (pinG g (calL Ds l (.loop (rfRec fn us ps assign body D .busy none)))) (startE g.um S1 (chgC C' l (.loop (rfRec fn us ps assign body D .busy none))) H') C3 t3 H3 a9→
   rfAt N Hs X (rfRec fn us ps assign body D) (if jump.isNone then i+1 else N+1+i) H3 (.loop (rfRec fn us ps assign body D (if jump.isNone then .ready else .done) jump))→
   ∃v w',(Instr.endRound l jump).run P C3.w= .ok v w'∧∃ (b:Bool) (C':Cx) (S':Nat→Prop),Ending.returned v= .returned (.bool b)∧C'.w=w'∧
   Wd C' (.mark (if b then i+1 else N+1+i) :: T')∧rfJ g E Ds t us.toList l N Hs X (rfRec fn us ps assign body D) (if b then i+1 else N+1+i) S' C'.w C'.I∧Rnd S C C' (.mark i :: T) (.mark (if b then i+1 else N+1+i) :: T') S':=by
   intro C3 t3 H3 jump hd3 hat;obtain ⟨_,S3,hcore3,hp3⟩:=hd3.defs;have hcal3:=hcal2.run hd3.ext hd3.wd hcore3 hp3;have hfar3:FarAt C3.w l:=⟨_,hcal3.lat,hcal3.lfar⟩;have hcal4:=hcal3.chg (o':=.loop (rfRec fn us ps assign body D (if jump.isNone then .ready else .done) jump)) trivial;have hrun:=run_endRound (P:=P) jump hcal3.lat;refine ⟨_,_,hrun,jump.isNone,⟨C2.ρ,C2.n,C3.I,(chgC C3 l (.loop (rfRec fn us ps assign body D (if jump.isNone then .ready else .done) jump))).w⟩,calS Ds l C3 H3 S3,rfl,rfl,?_⟩;generalize hC4:chgC C3 l (.loop (rfRec fn us ps assign body D (if jump.isNone then .ready else .done) jump))=C4 at*;have e4:C4.I=C3.I∧C4.ρ=C3.ρ:=by rw [←hC4];exact ⟨rfl,rfl⟩
   have f1:Fr (fun b=>OwnB Cc2 (Hm++new) b∨S0 b∨b=l) Cc2 C':=(z5h hn2 hd.ext).mono fun b hb=>orMap hb id .inl;have f2:=j2n (o:=.loop (rfRec fn us ps assign body D .busy none)) hcal1.limm hfar1;have f3:=z5h hcal2.wd.n hd3.ext;have f4:Fr (fun b=>b=l) C3 C4:=by rw [←hC4];exact j2n hcal3.limm hfar3
   have z1:∀b,OwnB C' H' b∨S1 b→Cc2.w.heap.size≤b∨OwnB Cc2 (Hm++new) b∨S0 b∨b=l:=fun b hb=>by
    rcases hb with x|x
    · exact orMap (z0Z hn2 hd.ext x) id fun y=>orMap y id .inl
    exact (g.perm hcore1 x).1.imp id fun y=>orMap ((q1e hn2).1 y) id fun z=>.inl z.1
   have f12:=f1.trans f2 fun b hb=>.inr (.inr (.inr hb));have f123:=f12.trans f3 fun b hb=>z1 b hb;have hf:=f123.trans f4 fun b hb=>.inr (.inr (.inr hb));have z3:∀b,OwnB C3 H3 b∨S3 b→Cc2.w.heap.size≤b∨OwnB Cc2 (Hm++new) b∨S0 b∨b=l:=fun b hb=>by
    rcases hb with x|x
    · exact (z0Z hcal2.wd.n hd3.ext x).elim (fun y=>.inl (Am f12.size y)) fun y=>z1 b y
    exact (g.perm hcore3 x).1.elim (fun y=>.inl (Am f12.size y)) fun y=>z1 b (orMap ((q1e hcal2.wd.n).1 y) id fun z=>z.1)
   have hq2:∀b,OwnB C2 (.mark i :: T') b→¬(OwnB Cc2 (Hm++new) b∨S0 b∨b=l):=fun b hb hq=>by
    have ho:=a5 b hb;rcases hq with x|x|x
    · exact (b6 b x).elim (fun y=>hsep b ho (.inl y)) fun y=>y.2 hb
    · exact hsep b ho (.inr (.inl x))
    exact hsep b ho (.inr (.inr (.inl x)))
   have hfc:Fr (fun b=>OwnB Cc2 (Hm++new) b∨S0 b∨b=l) C2 ⟨C2.ρ,C2.n,C3.I,C4.w⟩:=hf.congr (a1.trans b1.symm) (fun b=>by rw [a2,b2];exact (hI' b).symm) rfl (fun b=>by rw [e4.1])
   obtain ⟨w1,w2⟩:=j6B a3 hfc hq2 rfl rfl (by have:=hcal4.wd.imm;rwa [e4.1] at this)
   have hownc:∀ {b:Nat} {j:Nat},OwnB ⟨C2.ρ,C2.n,C3.I,C4.w⟩ (.mark j :: T') b→OwnB C2 (.mark i :: T') b:=fun {b j} hb=>by
    obtain ⟨x,y,z⟩:=z5i (j:=i) hb;exact ⟨x,y,z⟩
   refine ⟨j3B w1,⟨C4,S3,H3,_,rfl,fun b=> ?_,hcal4,fun b=> ?_,hat⟩,a4.trans w2,(hf.congr (A':=C) (B':=⟨C2.ρ,C2.n,C3.I,C4.w⟩) b1.symm (fun b=>by rw [b2];exact (hI' b).symm) rfl (fun b=>by rw [e4.1])).mono fun b hq=> ?_,fun b hb=>a5 b (hownc hb),fun b hb=> ?_⟩
   · rw [e4.1];exact ⟨fun h=>⟨h,hcal4.wd.imm b (by rw [e4.1];exact h)⟩,And.left⟩
   · unfold calS OwnB;rw [e4.2]
   · rcases hq with x|x|x
     · exact orMap (b6 b x) (fun y=>(hS b).2 (.inl y)) fun y=>y.1
     · exact .inl ((hS b).2 (.inr (.inl x)))
     exact .inl ((hS b).2 (.inr (.inr (.inl x))))
   have hz:Cc2.w.heap.size≤b∨(OwnB Cc2 (Hm++new) b∨S0 b∨b=l)∨b∈Ds:=by
    rcases hb with x|x|x|x
    · exact orMap (z3 b (.inl x)) id .inl
    · exact orMap (z3 b (.inr x)) id .inl
    · exact .inr (.inl (.inr (.inr x)))
    exact .inr (.inr x)
   refine ⟨?_,fun ho=> ?_⟩
   · rcases hz with x| (x|x|x) |x
     · rw [b1] at x;exact .inl x
     · exact .inr (orMap (b6 b x) (fun y=>(hS b).2 (.inl y)) fun y=>y.1)
     · exact .inr (.inl ((hS b).2 (.inr (.inl x))))
     · exact .inr (.inl ((hS b).2 (.inr (.inr (.inl x)))))
     exact .inr (.inl ((hS b).2 (.inr (.inr (.inr x)))))
   have ho2:=hownc ho;rcases hz with x|x|x
   · have:=(a3.own b ho2).2;rw [a1,←b1] at this;exact absurd this (AU.2 x)
   · exact hq2 b ho2 x
   exact hsep b (a5 b ho2) (.inr (.inr (.inr x)))
  cases e3 with
  |normal=>obtain ⟨C3,t3,H3,hK,rfl,hd3⟩:=hq3;exact fin none hd3 (.inl ⟨hi,hK,rfl⟩)
  |ret=>obtain ⟨C3,t3,H3,hK,rfl,hd3⟩:=hq3;exact fin (some .ret) hd3 (.inr ⟨i,.ret,.ret,rfl,hi,hK,rfl,rfl⟩)
  |exit id=>simp only [exitT] at hq3;obtain ⟨C3,t3,H3,hK,rfl,hd3⟩:=hq3;exact fin (some (.exit id)) hd3 (.inr ⟨i,.exit id,.exit id,rfl,hi,hK,rfl,rfl⟩)
  |panic ch=>obtain ⟨_,_,_,_,_,h,_⟩:=hq3;exact h.elim
  |goto _=>exact hq3.elim
  |outgrown=>exact hq3.elim
end Go.Sx
set_option maxHeartbeats 4000000
namespace Go.Sx
open Go

variable {P:Program} {AQ:Ex→List SV→List SObj→Prop} {k0:Nat} {k:List It} {t:List SV} {H:List SObj}
variable {g:FG} {Ds:List Nat}

theorem q9r{E:EnD}{D:Nat}{C:Cx}{ds:List Deferred}(h:(topG g (D :: Ds)).fin {E with base:=markD D :: E.base} C H ds):(topG g Ds).fin E C H ds:=by
 obtain ⟨Ds',e,⟨S,hc⟩,hnd,hok⟩:=h;exact ⟨Ds'++ [D],by rw [e];simp,⟨S,g.base (E:={E with base:=markD D :: E.base}) E.base hc⟩,by simpa using hnd,by simpa using hok⟩
theorem z0s{E:EnD}{D:Nat}(e:Exit)(a:Act)(w:World)(h: @conc (topG g (D :: Ds)) {E with base:=markD D :: E.base} AQ e a w): @conc (topG g Ds) E AQ e a w:=by
 cases e with
 |normal=>obtain ⟨C,t,H,h1,h2,h3⟩:=h;exact ⟨C,t,H,h1,h2,⟨h3.wd,h3.ext,q9r h3.defs,h3.tmps⟩⟩
 |ret=>obtain ⟨C,t,H,h1,h2,h3⟩:=h;exact ⟨C,t,H,h1,h2,⟨h3.wd,h3.ext,q9r h3.defs,h3.tmps⟩⟩
 |exit id=>obtain ⟨C,t,H,h1,h2,h3⟩:=h;exact ⟨C,t,H,h1,h2,⟨h3.wd,h3.ext,q9r h3.defs,h3.tmps⟩⟩
 |panic ch=>obtain ⟨C,t,H,s,v,h1,h2,h3,h4,h5,h6,h7,h8⟩:=h;exact ⟨C,t,H,s,v,h1,h2,h3,h4,h5,h6,q9r h7,h8⟩
 |goto l=>exact h
 |outgrown=>exact h

theorem q6p{w:World}{o:Obj}{b:Nat}(h:b<w.heap.size):(w.alloc o).heap[b]?=w.heap[b]?:=by
 show (w.heap.push o)[b]?=_;rw [Array.getElem?_push_lt h,Bx h]

def RfStop(g:FG)(P:Program)(AQ:Ex→List SV→List SObj→Prop)(k0:Nat)(k:List It)(t:List SV)(Ds:List Nat):Ex→List SObj→Prop
 |.exit id,H=>∃k',exitTo' id k=some k'∧ @Sound (topG g Ds) P AQ ⟨k0,k',t,H⟩
 |.ret,H=>AQ .ret t H
 |_,_=>False
theorem z9K{inf:Prop}{gop:Operand}{ps:Array Tmp}{assign body:Code}{f:FuncId}{fi ca:List SV}{N:Nat}{vw:Nat→Nat→List SV→List SObj→Prop}{Hs:Nat→List SObj→Prop}{X:Nat→Ex→List SObj→Prop}
 (hgop:evT t gop= .fn f fi ca)(hfi:SV.cleanL fi=true)(hca:SV.cleanL ca=true)(hit:IterI inf P f fi ca N vw)(hinf:inf→∀Hn,¬Hs N Hn)(hr:RfOk P g ps assign body t N vw Hs X)(h0:Hs 0 H)(hns:noStop k=true)
 (hdone:∀D Hn,Hs N Hn→ @Sound (topG g (D :: Ds)) P AQ ⟨k0,k,t,Hn⟩)(hstop:∀D i ex Hn,i<N→X i ex Hn→RfStop g P AQ k0 k t (D :: Ds) ex Hn):
 @Sound (topG g Ds) P AQ ⟨k0,.code (.rangeFunc gop ps assign body) :: k,t,H⟩:=by
 intro E r n C a hfit hd;obtain ⟨hn0,rfl⟩:E.C.n≤k0∧r=none:=hfit;simp only [wpT];obtain ⟨hdf,htab,⟨S0,hcore⟩,hnd,hok⟩:=hd.defs;have hgv:=q2P hd.tmps gop;rw [hgop,SV.den] at hgv;obtain ⟨v1,v2,hgv,d1,d2⟩:=hgv;refine wpIn_rangeFunc fun fn _=> ?_;obtain ⟨w1,hw1⟩:∃w1,w1=(C.w.alloc (.deferred (some []))).alloc (.loop (rfRec fn a.tmps ps assign body C.w.heap.size .ready none)):=⟨_,rfl⟩;have hsz:w1.heap.size=C.w.heap.size+2:=by rw [hw1];simp
 have hold:∀b,b<C.w.heap.size→w1.heap[b]?=C.w.heap[b]?:=fun b hb=>by rw [hw1,q6p (by simp;omega),q6p hb]
 have hD0:w1.heap[C.w.heap.size]?=some (.deferred (some [])):=by rw [hw1,q6p (by simp),World.alloc_heap_new]
 have hl0:w1.heap[C.w.heap.size+1]?=some (.loop (rfRec fn a.tmps ps assign body C.w.heap.size .ready none)):=by
  rw [hw1];have:=World.alloc_heap_new (C.w.alloc (.deferred (some []))) (.loop (rfRec fn a.tmps ps assign body C.w.heap.size .ready none));rwa [World.size_alloc] at this
 have henter:(Instr.enterLoop fn a.tmps ps assign body (Fw none).round).run P C.w= .ok (C.w.heap.size+1,[markD C.w.heap.size]) w1:=by rw [hw1];exact run_enterLoop_outer _ _ _ _ _
 have hvw:World.os w1=C.w.os∧w1.tape=C.w.tape∧w1.output=C.w.output:=by rw [hw1];exact ⟨rfl,rfl,rfl⟩
 clear hw1;obtain ⟨g1,g2⟩:=j3K (w':=w1) hd.wd (by omega) hold hvw.1 hvw.2.1 hvw.2.2
 have hDlt:∀D∈Ds,D<C.w.heap.size:=fun D hD=>(AD.1 (hok D hD).at_).1;have hnew:∀b,C.w.heap.size≤b→¬C.I b∧¬OwnB C H b:=fun b hb=>⟨fun h=>absurd (hd.wd.imm b h) (by omega),fun h=>absurd (hd.wd.own b h).2 (by omega)⟩
 have hEs:E.C.w.heap.size≤C.w.heap.size:=hd.ext.size;have hcal:Cal g E (C.w.heap.size :: Ds) t a.tmps.toList (C.w.heap.size+1) (.loop (rfRec fn a.tmps ps assign body C.w.heap.size .ready none)) {C with w:=w1} H S0:=by
  refine ⟨g1,hd.ext.trans g2,g.next g2 hcore,q0j g2.evo hd.tmps,fun D hD=> ?_,fun hm=> ?_,by omega,(hnew _ (by omega)).1,(hnew _ (by omega)).2,hl0,trivial,⟨htab.tab.next g2,htab.old⟩⟩
  · rcases Bi.1 hD with rfl|hD
    · exact ⟨hEs,(hnew _ (Ag _)).1,(hnew _ (Ag _)).2,hD0⟩
    exact (hok D hD).next g2
  rcases Bi.1 hm with h|h
  · omega
  have:=hDlt _ h;omega
 have hB:E.C.w.heap.size≤C.w.heap.size+2:=by omega
 have hJ:=j5o (g:=g) (E:=E) (Ds:=C.w.heap.size :: Ds) (t:=t) (tms:=a.tmps.toList) (l:=C.w.heap.size+1) (N:=N) (Hs:=Hs) (X:=X) (rec:=rfRec fn a.tmps ps assign body C.w.heap.size) hB (by omega) (fun D hD=>by
  rcases Bi.1 hD with rfl|hD
  · omega
  have:=hDlt _ hD;omega)
 have yg:=z6h (E:=E) (Ds:=C.w.heap.size :: Ds) (l:=C.w.heap.size+1) (fn:=fn) (us:=a.tmps) (D:=C.w.heap.size) hr hB;have hj0:rfJ g E (C.w.heap.size :: Ds) t a.tmps.toList (C.w.heap.size+1) N Hs X (rfRec fn a.tmps ps assign body C.w.heap.size) 0 (calS (C.w.heap.size :: Ds) (C.w.heap.size+1) {C with w:=w1} H S0) w1 C.I:=
  ⟨{C with w:=w1},S0,H,_,rfl,fun b=>⟨fun h=>⟨h,g1.imm b h⟩,And.left⟩,hcal,fun _=>Iff.rfl,.inl ⟨Ak _,h0,rfl⟩⟩
 have hno:∀b,¬OwnB ⟨fun _=>none,1,C.I,w1⟩ [.mark 0] b:=fun b ⟨x,o,_,_,hb⟩=>by cases hb
 have hw2:Wd ⟨fun _=>none,1,C.I,w1⟩ [.mark 0]:=by
  refine ⟨rfl,fun x o ho=> ?_,fun b hb=>absurd hb (hno b),fun x x' o o' b _ _ _ _ h=>(by cases h),g1.imm⟩
  cases x with
  |zero=>simp at ho;subst ho;trivial
  |succ x=>simp at ho
 have hy:=YCore.mk (B:=C.w.heap.size+2) (E:=startE true (calS (C.w.heap.size :: Ds) (C.w.heap.size+1) {C with w:=w1} H S0) ⟨fun _=>none,1,C.I,w1⟩ [.mark 0]) (C:=⟨fun _=>none,1,C.I,w1⟩) (H:=[.mark 0]) (S:=calS (C.w.heap.size :: Ds) (C.w.heap.size+1) {C with w:=w1} H S0)
  Nat.one_pos (Ag _) (fun n hn=>by cases (q4V (by simp) hn).1) (by show _≤w1.heap.size;omega) (Ag _) (fun b hb=>absurd hb (hno b)) ⟨0,rfl,hj0⟩ (fun b hb=>⟨.inr ((q1e rfl).2 (.inr ⟨hb,(hJ.fp hj0 hb).2⟩)),hno b⟩)
 have hkeep:Keeps C.I C.I C.w w1:=g2.evo.I;have htab2:TabT ⟨fun _=>none,1,C.I,w1⟩ [.mark 0]:=htab.tab.keep g2.evo.I fun b _ hb _=>⟨by show b<w1.heap.size;omega,hno b,hold b hb⟩
 have hcall:=hit.2 (C.w.heap.size+1) (C.w.heap.size+2) _ hJ yg (fun hi S w I ⟨_,_,Hn,_,_,_,_,_,hat⟩=>by
  rcases hat with ⟨_,h1,_⟩ | ⟨i,_,_,h1,h2,_⟩
  · exact hinf hi Hn h1
  · omega) (startE true (calS (C.w.heap.size :: Ds) (C.w.heap.size+1) {C with w:=w1} H S0) ⟨fun _=>none,1,C.I,w1⟩ [.mark 0]) ⟨fun _=>none,1,C.I,w1⟩ (v1++ [Value.func (.yield (C.w.heap.size+1)) #[] #[]]++v2) hw2 ⟨⟨htab2,htab2.lt⟩,_,hy⟩
  (q0B.2 ⟨_,_,rfl,q0B.2 ⟨_,_,rfl,q1C (C:=C) hkeep hfi d1,q0e.2 ⟨_,[],rfl,by rw [SV.den],q0C.2 rfl⟩⟩,q1C (C:=C) hkeep hca d2⟩)
 refine ⟨C.w.heap.size+1,[markD C.w.heap.size],w1,{target:=.fn (.func f) v2.toArray,args:=v1.toArray++ #[.func (.yield (C.w.heap.size+1)) #[] #[]]},w1,f,(v1++ [Value.func (.yield (C.w.heap.size+1)) #[] #[]]++v2).toArray,w1,henter,?_,fun f' _=>q6g none f',?_,fun h=>(by cases h),q5O (hcall.mono ?_)⟩
 · simp [resolve,hgv,Deferred.ofValue];rfl
 · simp [invoke,q4x hit.1]
 rintro e w' ⟨o,H',C',⟨s,m,rfl,hm,hN⟩,rfl,hw',hx',v,rfl,hv⟩;obtain ⟨_,S',hy'⟩:= @Stp.inv (fgG (yFG hJ)) _ _ _ _ _ hx' ⟨⟨htab2,htab2.lt⟩,_,hy⟩;obtain ⟨m',hm',C3,S3,H3,o3,e3,hI3,hc3,hS3,hat⟩:=hy'.st;have hmm:m'=m:=by rw [hm] at hm';simpa using hm'.symm
 subst hmm;have hden:∀ (pe:Option Code), @Den (topG g (C.w.heap.size :: Ds)) {E with base:=markD C.w.heap.size :: E.base} (chgC C3 (C.w.heap.size+1) (.loop (rfRec fn a.tmps ps assign body C.w.heap.size .exhausted pe))) t H3 {a with defers:=[markD C.w.heap.size]++a.defers}:=fun pe=>by
  have hcal4:=hc3.chg (o':=.loop (rfRec fn a.tmps ps assign body C.w.heap.size .exhausted pe)) trivial;exact ⟨hcal4.wd,hcal4.ext,⟨by rw [hdf];rfl,hcal4.tab,⟨S3,g.base _ hcal4.core⟩,BJ.2 ⟨fun h=>absurd (hDlt _ h) (CB _),hnd⟩,hcal4.marks⟩,hcal4.tmps⟩
 rcases hat with ⟨hmN,hHs,rfl⟩ | ⟨i,ex,c,rfl,hi,hX,hex,rfl⟩
 · have hmN:m'=N:=Nat.le_antisymm hmN hN;subst hmN;refine ⟨none,_,by rw [←e3];exact run_endLoop hc3.lat (by simp),?_⟩
   exact (q4a (fun e a w hh=>z0s e a w hh) k hns).1 _ _ (hdone C.w.heap.size H3 hHs {E with base:=markD C.w.heap.size :: E.base} none n _ _ ⟨hn0,rfl⟩ (hden none))
 have hs:=hstop C.w.heap.size i ex H3 hi hX;refine ⟨some c,_,by rw [←e3];exact run_endLoop hc3.lat (by simp),?_⟩
 cases ex with
 |normal=>exact hs.elim
 |pan s=>exact hs.elim
 |ret=>
  cases hex;exact wpIn_ret (z0s .ret _ _ ⟨_,t,H3,hs,rfl, @Den.fin (topG g (C.w.heap.size :: Ds)) _ _ _ _ _ (hden (some .ret))⟩)
 |exit id=>
  cases hex;obtain ⟨k',hk',hs⟩:=hs;have h9:=hs {E with base:=markD C.w.heap.size :: E.base} none n _ _ ⟨hn0,rfl⟩ (hden (some (.exit id)))
  have h8:= @q3H (topG g (C.w.heap.size :: Ds)) P (Fw none) n _ _ id _ _ k' k hk' h9;exact wpIn_exit ((q4a (G:=topG g Ds) (fun e a w hh=>z0s e a w hh) k hns).2 id _ _ h8)
end Go.Sx
namespace Go.Sx
open Go

variable {P:Program} {AQ:Ex→List SV→List SObj→Prop} {k0:Nat} {k:List IT} {t:List SV} {H:List SObj}
variable {g:FG} {Ds:List Nat}

theorem z6X:(#[]:Array Value).size=0:=rfl
attribute [go_sem] z6X
def RfStopI(g:FG)(P:Program)(AQ:Ex→List SV→List SObj→Prop)(k0:Nat)(k:List IT)(t:List SV)(Ds:List Nat):Ex→List SObj→Prop
 |.exit id,H=>∃k',exitI id k=some k'∧ @SoundI (topG g Ds) P AQ ⟨k0,k',t,H⟩
 |.ret,H=>AQ .ret t H
 |_,_=>False
theorem j1S{inf:Prop}{gop:Operand}{ps:Array Tmp}{asg body:IC}{f:FuncId}{fi ca:List SV}{N:Nat}{vw:Nat→Nat→List SV→List SObj→Prop}(Hs:Nat→List SObj→Prop)(X:Nat→Ex→List SObj→Prop)
 (hgop:evT t gop= .fn f fi ca)(hfi:SV.cleanL fi=true)(hca:SV.cleanL ca=true)(hit:IterI inf P f fi ca N vw)(hinf:inf→∀Hn,¬Hs N Hn)(hlen:∀i n args' new,vw i n args' new→args'.length=ps.size)(h0:Hs 0 H)(hns:noStopI k=true)
 (hround:∀i Hi args' new,i<N→Hs i Hi→vw i Hi.length args' new→∀L1 L2, @SoundI (pinG g L1) P (fun _ _ _=>False)
  ⟨(Hi++new).length,[.ic asg,.stop fun t' H'=> @SoundI (pinG g L2) P (RQ Hs X i) ⟨H'.length,[.ic body],t',H'⟩],putL ps.toList args' t,Hi++new⟩)
 (hdone:∀D Hn,Hs N Hn→ @SoundI (topG g (D :: Ds)) P AQ ⟨k0,k,t,Hn⟩)(hstop:∀D i ex Hn,i<N→X i ex Hn→RfStopI g P AQ k0 k t (D :: Ds) ex Hn):
 @SoundI (topG g Ds) P AQ ⟨k0,.ic (.rf gop ps asg body) :: k,t,H⟩:= @q0g (topG g Ds) P AQ k0 t H _ (fun td' hr=>by
 obtain ⟨c',r,rfl,hc,hr⟩:=hr;obtain ⟨a,b,rfl,ha,hb⟩:=q0U hc;refine z9K (Hs:=Hs) (X:=X) hgop hfi hca hit hinf ⟨hlen,fun i Hi args' new hi hH hv L1 L2=>⟨_,fun t' H' hΦ=> ?_, @q0h (pinG g L1) _ _ _ _ _ _ _ (hround i Hi args' new hi hH hv L1 L2) ⟨a,_,rfl,ha,[],rfl,rfl⟩⟩⟩ h0 (q3D hr hns) (fun D Hn h=> @q0h (topG g (D :: Ds)) _ _ _ _ _ _ _ (hdone D Hn h) hr) fun D i ex Hn hi hX=> ?_
 · exact @q0h (pinG g L2) _ _ _ _ _ _ _ hΦ ⟨b,[],rfl,hb,rfl⟩
 have h:=hstop D i ex Hn hi hX;cases ex with
 |normal=>exact h.elim
 |pan s=>exact h.elim
 |ret=>exact h
 |exit id=>
  obtain ⟨k',hk',hs⟩:=h;obtain ⟨r',hr',hrel⟩:=q3a hr hk'
  exact ⟨r',hr', @q0h (topG g (D :: Ds)) _ _ _ _ _ _ _ hs hrel⟩) rfl
theorem j6x{gop:Operand}{ps:Array Tmp}{asg body:IC}{f:FuncId}{fi ca:List SV}{N:Nat}{vw:Nat→Nat→List SV→List SObj→Prop}(Hs:Nat→List SObj→Prop)(X:Nat→Ex→List SObj→Prop)
 (hgop:evT t gop= .fn f fi ca)(hfi:SV.cleanL fi=true)(hca:SV.cleanL ca=true)(hit:Iter P f fi ca N vw)(hlen:∀i n args' new,vw i n args' new→args'.length=ps.size)(h0:Hs 0 H)(hns:noStopI k=true)
 (hround:∀i Hi args' new,i<N→Hs i Hi→vw i Hi.length args' new→∀L1 L2, @SoundI (pinG g L1) P (fun _ _ _=>False)
  ⟨(Hi++new).length,[.ic asg,.stop fun t' H'=> @SoundI (pinG g L2) P (RQ Hs X i) ⟨H'.length,[.ic body],t',H'⟩],putL ps.toList args' t,Hi++new⟩)
 (hdone:∀D Hn,Hs N Hn→ @SoundI (topG g (D :: Ds)) P AQ ⟨k0,k,t,Hn⟩)(hstop:∀D i ex Hn,i<N→X i ex Hn→RfStopI g P AQ k0 k t (D :: Ds) ex Hn):
 @SoundI (topG g Ds) P AQ ⟨k0,.ic (.rf gop ps asg body) :: k,t,H⟩:=
 j1S (inf:=False) Hs X hgop hfi hca hit.toI (fun h=>h.elim) hlen h0 hns hround hdone hstop
theorem j1v{B N:Nat}{J:Nat→(Nat→Prop)→World→(Nat→Prop)→Prop}{T:List SObj}{c:IC}(hJ:FJ B J)(hno:∀S w I,¬J N S w I): @SoundI (topG (yFG hJ) Ds) P AQ ⟨k0,.ic c :: k,t,.mark N :: T⟩:= @q0g (topG (yFG hJ) Ds) P AQ k0 t _ _ (fun td' _ E r n C a h0 hd=>by
 obtain ⟨_,_,⟨S0,hc⟩,_⟩:=hd.defs;obtain ⟨m,h1,h2⟩:=hc.st;have e:m=N:=by simpa using h1.symm
 exact (hno _ _ _ (e▸h2)).elim) rfl

theorem q5q{l B N:Nat}{J:Nat→(Nat→Prop)→World→(Nat→Prop)→Prop}{vw:Nat→Nat→List SV→List SObj→Prop}{i:Nat}{T:List SObj}(T':List SObj){args:List SV}{d:Option Tmp}
 (hJ:FJ B J)(yg:YG P l B N J vw)(hi:i<N)(hh:∀n,∃args' new,vw i n args' new∧Hand n (.mark i :: T) (.mark i :: T') args args' new)
 (hk:∀b:Bool, @SoundI (topG (yFG hJ) Ds) P AQ ⟨k0,k,putT t d (.raw (.bool b)),.mark (if b then i+1 else N+1+i) :: T'⟩): @YldI (topG (yFG hJ) Ds) P AQ l args d ⟨k0,k,t,.mark i :: T⟩:=j0w hJ yg hi hh hk
def RoundM(T:List SObj)(f:Nat→Nat)(S:Nat→List SV)(n:Nat)(p:Nat→Prop)(i:Nat):List SV→List SObj→Prop:=
 fun t' H'=>i<n∧p (i+1)∧(∃G,H'= .mark (f (i+1)) :: T++G)∧leM t' (S (i+1))
theorem z3g[Ghost]{P:Program}{k:List It}(c:Code)(T:List SObj)(f:Nat→Nat)(S:Nat→List SV)(n:Nat)(p:Nat→Prop)(h₀:p 0)(hs:leM t (S 0))(hk:k0≤T.length+1)(hb:SV.belL (T.length+1) t=true→∀i,SV.belL (T.length+1) (S i)=true)
 (round:∀i,i≤n→p i→Sound P AQ ⟨k0,.code c :: .stop (RoundM T f S n p i) :: k,S i,.mark (f i) :: T⟩):Sound P AQ ⟨k0,.code (.loop c) :: k,t,.mark (f 0) :: T⟩:=fun E r m C a h0 hd=>by
 have hbt:∀i,SV.belL (T.length+1) (S i)=true:=hb (by have:=q1N hd.tmps;rwa [hd.wd.n] at this)
 have hbh:belH (T.length+1) T=true:=q6q fun h o ho=>by have:=q5Z (hd.wd.obj (h+1) o (by simpa using ho));rwa [hd.wd.n] at this
 simp only [wpT];refine q1j (fun m a w=>∃i,i≤n∧p i∧n-i=m∧∃C,C.w=w∧Den E C (S i) (.mark (f i) :: T) a) n ⟨0,Ak _,h₀,rfl,C,rfl,hd.wd,hd.ext,hd.defs,q3v (q3S hs) hd.tmps⟩ ?_;rintro m' a w ⟨i,hi,hp,rfl,C,rfl,hd⟩;have h1:=round i hi hp E r m C a h0 hd;simp only [wpT] at h1;refine wpIn_mono h1 fun e a w hq=> ?_;cases e with
 |normal=>
  obtain ⟨C',t',H',⟨hlt,hp',⟨G,rfl⟩,hS⟩,rfl,hd'⟩:=hq;refine ⟨n- (i+1),by omega,i+1,hlt,hp',rfl,C'.ren (fun h=>h) (T.length+1),rfl,?_⟩
  exact q8V (H':=.mark (f (i+1)) :: T) h0.1 hd' (q9E hS) (hbt _) (fun h o ho _=>by rw [q3Z,Ah (Af.1 ho).1];exact ho) (by simp only [belH,Aj];exact ⟨rfl,hbh⟩) (fun _ _ _ _ _ _ _ _ e=>e) (fun _ _=>rfl) hk (fun _ hp hn=>by rw [Ah (by simp)] at hn;exact hn)
 |exit id=>simpa only [Exit.then,exitT] using hq
 |_=>exact hq
theorem z7V[Ghost]{c:IC}(T:List SObj)(f:Nat→Nat)(upd:Nat→List (Nat×SV))(n:Nat)(p:Nat→Prop)(h₀:p 0)(hH:H= .mark (f 0) :: T)(hk:k0≤T.length+1)(hu:∀i,((upd i).all fun x=>x.2.bel (T.length+1))=true)(hs:leM t (setMany (maskT c.wr t) (upd 0)))
 (round:∀i,i≤n→p i→SoundI P AQ ⟨k0,.ic c :: .stop (RoundM T f (fun i=>setMany (maskT c.wr t) (upd i)) n p i) :: k,setMany (maskT c.wr t) (upd i),.mark (f i) :: T⟩):
 SoundI P AQ ⟨k0,.ic (.loop c) :: k,t,H⟩:=q0g (fun td' hr=>by
 subst hH;obtain ⟨c',r,rfl,hc,hr⟩:=hr;obtain ⟨x,rfl,hx⟩:=q0U hc
 exact z3g x T f _ n _ h₀ hs hk (fun hb i=>q3b _ (hu i) (q3e _ hb)) (fun i hi hp=>q0h (round i hi hp) ⟨x,_,rfl,hx,r,rfl,hr⟩)) rfl

end Go.Sx
namespace Go.Proofs.YtmapiojgmbgbgaaGreatDoor
open Go Go.Sx Go.Proofs
set_option maxRecDepth 100000
set_option maxHeartbeats 40000000
def padT(b:List UInt8)(total:Nat):List UInt8:=padZ b (padN b.length)++lnB8 (8*total) 8
theorem z0C(b:List UInt8)(total:Nat):(padT b total).length=64*blksN b:=by
 unfold padT blksN;rw [Ac,q7f,q6Z];unfold padN;omega
def blkAt(p:List UInt8)(i:Nat):List UInt8:=(p.take (64*i+64)).drop (64*i)
theorem z0Q{p:List UInt8}{N i:Nat}(hp:p.length=64*N)(hi:i<N):(blkAt p i).length=64:=by
 unfold blkAt;rw [Al,Av];omega
def vwB(b:List UInt8)(total:Nat):Nat→Nat→List SV→List SObj→Prop:=fun i _ args' new=>args'= [.isl .u8 (blkAt (padT b total) i)]∧new= []
theorem j1V(b:List UInt8)(total:Nat)(hb:b.length≤70368744177664):PC Tryz.prog 281 [.isl .u8 b,rI total] (.fn 297 [] [.iptr (.slice .u8) b 0,.iptr (.int .i64) total 0]):=by
 refine q0p rfl rfl ?_;refine q3E fi281 ?_;refine uQ 4 _ ?_;with_reducible refine sxE ?_
 refine q4g 2 0 (ty:=.slice .u8) (x:=b) rfl ⟨by omega,fun _ _=>trivial⟩ rfl rfl ?_
 refine q4g 3 1 (ty:=.int .i64) (x:=(total:Int)) rfl trivial rfl rfl ?_;refine gQ ?_;trivial
def endP(r:List UInt8)(total S i:Nat):List UInt8:=(List.range S).map fun j=>if j<r.length then r.getD j 0 else if j=r.length then 128 else if S-i≤j then UInt8.ofNat (8*total / 2^ (8* (S-1-j))%256) else 0
theorem q5s(r:List UInt8)(total S i:Nat):(endP r total S i).length=S:=by simp [endP]
theorem z1D(r:List UInt8)(total:Nat){S:Nat}(h:r.length<S):(splice (List.replicate S 0) 0 r).set r.length 128=endP r total S 0:=by
 apply AO
 · simp [endP,splice];omega
 intro j h1 h2;rw [BC];simp only [endP,A4,AZ];rw [q5s] at h2;split
 · subst_vars;rw [if_neg (by omega),if_pos rfl]
 rename_i hne;simp only [splice,BQ,Au,Ab];by_cases hj:j<r.length
 · rw [if_pos hj,Bj hj,Ad,Ae hj];rfl
 rw [if_neg hj,if_neg (by omega),if_neg (by omega),BR (by omega)]
 simp
theorem z4b(r:List UInt8)(total:Nat){S i:Nat}(h:r.length+9≤S)(hi:i<8):(endP r total S i).set (S-1-i) (UInt8.ofNat (8*total / 2^ (8*i)%256))=endP r total S (i+1):=by
 apply AO
 · simp [endP]
 intro j h1 h2;rw [q5s] at h2;rw [BC];simp only [endP,A4,AZ];split
 · subst_vars
   rw [if_neg (by omega),if_neg (by omega),if_pos (by omega)]
   rw [show S-1- (S-1-i)=i by omega]
 rename_i hne;by_cases h1:j<r.length
 · rw [if_pos h1,if_pos h1]
 rw [if_neg h1,if_neg h1];by_cases h2:j=r.length
 · rw [if_pos h2,if_pos h2]
 rw [if_neg h2,if_neg h2];by_cases h3:S-i≤j
 · rw [if_pos h3,if_pos (by omega)]
 rw [if_neg h3,if_neg (by omega)]
theorem z9P(b:List UInt8)(total:Nat){S:Nat}(hS:S=64* (blksN b-b.length / 64)):(padT b total).drop (64* (b.length / 64))=endP (b.drop (64* (b.length / 64))) total S 8:=by
 have hl:=z0C b total;have hb:blksN b=(b.length+72) / 64:=rfl;apply AO
 · rw [Al,hl,q5s];omega
 intro j h1 h2;rw [Al,hl] at h1;have hd:(b.drop (64* (b.length / 64))).length=b.length%64:=by rw [Al];omega
 have hn:padN b.length=(119-b.length%64)%64:=rfl;rw [List.getElem_drop];simp only [endP,A4,AZ,hd];unfold padT padZ;by_cases c1:j<b.length%64
 · rw [if_pos c1,Bj (by simp;omega),Bj (by simp;omega),Bj (by omega),Ad,AG,Ae (by omega)];rfl
 rw [if_neg c1];by_cases c2:j=b.length%64
 · rw [if_pos c2,Bj (by simp;omega),Bj (by simp;omega),BR (by omega)]
   have:64* (b.length / 64)+j-b.length=0:=by omega
   simp [this]
 rw [if_neg c2];by_cases c3:S-8≤j
 · have hpl:(b++ [128]++List.replicate (padN b.length) (0:UInt8)).length=b.length+1+padN b.length:=by simp;omega
   rw [if_pos c3,BR (by rw [hpl];omega)]
   simp only [lnB8,A4,AZ,hpl];refine congrArg (fun k=>UInt8.ofNat (8*total / 2^ (8*k)%256)) ?_;omega
 rw [if_neg c3,Bj (by simp;omega),BR (by simp;omega)]
 simp
theorem u64i{x:Int}(h:0≤x∧x<18446744073709551616):IntKind.u64.wrap x=x:=by
 have e:IntKind.u64.wrap x=x%18446744073709551616:=rfl;rw [e];omega
theorem byteQ(n i:Nat)(hi:i≤7):UInt8.ofNat (IntKind.u8.wrap ((n:Int).fdiv (2^ min (8*i) 64))).toNat=UInt8.ofNat (n / 2^ (8*i)%256):=by
 have e:((n:Int).fdiv (2^ (8*i)))=((n / 2^ (8*i):Nat):Int):=by
  rw [AV _ (by exact_mod_cast Ak (2^ (8*i)))]
  simp
 rw [A5 (by omega),e]
 generalize n / 2^ (8*i)=m;rw [u8wrapR];congr 1
theorem q7i(p:List UInt8)(f k:Nat):blkAt p (f+k)=((p.drop (64*f)).drop (64*k)).take 64:=by
 unfold blkAt;rw [Bp,BG,CT];congr 1;omega
theorem z9p(b:List UInt8)(total:Nat){i:Nat}(hi:i<b.length / 64):List.take 64 (b.drop (64*i))=blkAt (padT b total) i:=by
 unfold blkAt padT padZ;rw [A9 (by simp;omega),A9 (by simp;omega),A9 (by omega),BG]
 congr 1;omega
theorem z1o(b:List UInt8)(total:Nat)(hb:b.length≤70368744177664)(ht:total≤70368744177664):Iter Tryz.prog 297 [] [.iptr (.slice .u8) b 0,.iptr (.int .i64) (total:Int) 0] (blksN b) (vwB b total):=by
 refine ⟨by kernel_rfl,fun l B J hJ yg=> ?_⟩
 refine (q7q (yFG hJ) fi297 ?_).2
 letI:Ghost:=topG (yFG hJ) []
 refine gQ ?_;refine z7V [] (fun i=>i) (fun i=>[(4,.isl .u8 (b.drop (64*i)))]) (b.length / 64) (fun _=>True) trivial rfl (by simp) (by simp [SV.bel]) ?_ fun i hi _=> ?_
 · with_reducible refine sxE ?_;trivial
 have hN:blksN b=(b.length+72) / 64:=rfl;by_cases hlt:i<b.length / 64
 · refine uQ 600 _ ?_;simp (maxSteps:=3000000) only [Al,go_sem,↓zA,↓reduceIte,↓reduceDIte] <;>try simp only [zB]
   refine ⟨fun _=>⟨by omega,?_⟩,fun h=>absurd h (by omega)⟩
   refine q5q [] hJ yg (by omega) (fun n=>⟨_,_,⟨by rw [z9p b total hlt],rfl⟩,q3m rfl⟩) fun c=> ?_
   cases c
   · refine gQ ?_;exact ⟨_,_,rfl,rfl,by omega⟩
   refine uQ 600 _ ?_;simp (maxSteps:=3000000) only [Al,go_sem,↓zA,↓reduceIte,↓reduceDIte] <;>try simp only [zB]
   have he:List.drop 64 (List.take (b.length-64*i) (List.drop (64*i) b))=List.drop (64* (i+1)) b:=by
    rw [Aa (by rw [Al];omega),Bp];congr 1
   refine ⟨⟨by omega,by omega⟩,hlt,trivial,⟨[],rfl⟩,?_⟩
   rw [he];with_reducible refine sxE ?_;trivial
 obtain rfl:i=b.length / 64:=by omega
 refine uQ 600 _ ?_;simp (maxSteps:=3000000) only [Al,go_sem,↓zA,↓reduceIte,↓reduceDIte] <;>try simp only [zB]
 have hrl:(b.drop (64* (b.length / 64))).length=b.length%64:=by rw [Al];omega
 have hea:=z9P b total (S:=64* (blksN b-b.length / 64)) rfl;generalize hr:b.drop (64* (b.length / 64))=r at*;have hl2:b.length-64* (b.length / 64)=b.length%64:=by omega
 rw [hl2];refine ⟨fun h=>absurd h (by omega),fun _=>⟨fun hg=> ?_,fun hg=> ?_⟩⟩
 · have hw9:IntKind.i64.wrap (((b.length%64:Nat):Int)+9)=((b.length%64:Nat):Int)+9:=by rw [wrapi (by omega)]
   have hS:64* (blksN b-b.length / 64)=128:=by omega
   rw [hS] at hea;have htk:List.take (min (b.length%64) 128) r=r:=Aa (by omega)
   have hz:=z1D r total (S:=128) (by omega)
   rw [htk];repeat (with_reducible refine And.intro (by first|omega|exact ⟨by omega,by omega⟩ |exact ⟨by simp;omega,by decide⟩) ?_)
   refine q0i (ι:=Nat) (fun i=>[(32,rI i)]) (fun i=>[.mark (b.length / 64),.row .u8 (endP r total 128 i)]) (fun i=>8-i) (fun i=>i≤8) 0 (Ak _) ?_ ?_ ?_
   · rw [←hz];simp only [splice,BQ,Au,hrl,Ab];rfl
   · with_reducible refine sxE ?_;trivial
   intro i hi;have hel:=q5s r total 128 i;have hwr:=wsx i (by omega)
   by_cases h8:i<8
   · have w0:IntKind.i64.wrap (128-1)=127:=by rw [wrapi (by omega)];rfl
     have w1:IntKind.i64.wrap (127- (i:Int))=((127-i:Nat):Int):=by rw [wrapi (by omega)];omega
     have w2:IntKind.u64.wrap (total:Int)=total:=u64i (by omega)
     have w3:IntKind.u64.wrap ((total:Int)*8)=((8*total:Nat):Int):=by rw [u64i (by omega)];omega
     have w4:IntKind.i64.wrap (8* (i:Int))=((8*i:Nat):Int):=by rw [wrapi (by omega)];omega
     refine gy8 w0 w1 w2 w3 w4 hel Ab Ab ?_;refine ⟨fun _=> ?_,fun h=>absurd h (by omega)⟩
     repeat (with_reducible refine And.intro (by first|omega|exact ⟨by omega,by omega⟩ |exact ⟨by omega,q1G _⟩) ?_)
     refine ⟨i+1,h8,by dsimp only;omega,?_,?_⟩
     · dsimp only;rw [byteQ _ _ (by omega),←z4b r total (by omega) h8]
     with_reducible refine sx1 hwr ?_;trivial
   obtain rfl:i=8:=by omega
   refine uQ 6 _ ?_;with_reducible refine sy2 hel Ab ?_
   refine ⟨fun h=>absurd h (by omega),fun _=> ?_⟩
   refine uQ 1 _ ?_;with_reducible refine sxE ?_
   refine q0Q 1 rfl rfl (by rw [hel];decide) ?_ ?_ ?_
   · with_reducible refine sxE ?_;trivial
   · with_reducible refine sxE ?_
     omega
   with_reducible refine sxE ?_
   have hck:List.take 128 (endP r total 128 8)=endP r total 128 8:=Aa (by omega)
   rw [hck];refine gy2 hel Ab ?_;refine ⟨by omega,?_⟩
   refine q5q [.dead] hJ yg (i:=b.length / 64) (by omega) (fun n=>⟨_,_,⟨by rw [show blkAt (padT b total) (b.length / 64)=_ from q7i (padT b total) (b.length / 64) 0,hea,As],rfl⟩,q3m rfl⟩) fun c=> ?_
   cases c
   · refine gQ ?_;exact ⟨_,_,rfl,rfl,by omega⟩
   refine uQ 600 _ ?_;simp (maxSteps:=3000000) only [hel,Ab,go_sem,↓zA,↓reduceIte,↓reduceDIte] <;>try simp only [zB]
   repeat (with_reducible refine And.intro (by first|omega|exact ⟨by omega,by omega⟩) ?_)
   refine q5q [.dead] hJ yg (i:=b.length / 64+1) (by omega) (fun n=>⟨_,_,⟨by rw [q7i _ _ 1,hea,hck,Aa (by rw [Al];omega)],rfl⟩,q3m rfl⟩) fun c=> ?_
   cases c
   · refine gQ ?_;exact ⟨_,_,rfl,rfl,by omega⟩
   refine gQ ?_;exact ⟨_,_,rfl,rfl,by omega⟩
 have hw9:IntKind.i64.wrap (((b.length%64:Nat):Int)+9)=((b.length%64:Nat):Int)+9:=by rw [wrapi (by omega)]
 have hS:64* (blksN b-b.length / 64)=64:=by omega
 rw [hS] at hea;have htk:List.take (min (b.length%64) 64) r=r:=Aa (by omega)
 have hz:=z1D r total (S:=64) (by omega)
 rw [htk];repeat (with_reducible refine And.intro (by first|omega|exact ⟨by omega,by omega⟩ |exact ⟨by simp;omega,by decide⟩) ?_)
 refine q0i (ι:=Nat) (fun i=>[(32,rI i)]) (fun i=>[.mark (b.length / 64),.row .u8 (endP r total 64 i)]) (fun i=>8-i) (fun i=>i≤8) 0 (Ak _) ?_ ?_ ?_
 · rw [←hz];simp only [splice,BQ,Au,hrl,Ab];rfl
 · with_reducible refine sxE ?_;trivial
 intro i hi;have hel:=q5s r total 64 i;have hwr:=wsx i (by omega)
 by_cases h8:i<8
 · have w0:IntKind.i64.wrap (64-1)=63:=by rw [wrapi (by omega)];rfl
   have w1:IntKind.i64.wrap (63- (i:Int))=((63-i:Nat):Int):=by rw [wrapi (by omega)];omega
   have w2:IntKind.u64.wrap (total:Int)=total:=u64i (by omega)
   have w3:IntKind.u64.wrap ((total:Int)*8)=((8*total:Nat):Int):=by rw [u64i (by omega)];omega
   have w4:IntKind.i64.wrap (8* (i:Int))=((8*i:Nat):Int):=by rw [wrapi (by omega)];omega
   refine gy8 w0 w1 w2 w3 w4 hel Ab Ab ?_;refine ⟨fun _=> ?_,fun h=>absurd h (by omega)⟩
   repeat (with_reducible refine And.intro (by first|omega|exact ⟨by omega,by omega⟩ |exact ⟨by omega,q1G _⟩) ?_)
   refine ⟨i+1,h8,by dsimp only;omega,?_,?_⟩
   · dsimp only;rw [byteQ _ _ (by omega),←z4b r total (by omega) h8]
   with_reducible refine sx1 hwr ?_;trivial
 obtain rfl:i=8:=by omega
 refine uQ 6 _ ?_;with_reducible refine sy2 hel Ab ?_
 refine ⟨fun h=>absurd h (by omega),fun _=> ?_⟩
 refine uQ 1 _ ?_;with_reducible refine sxE ?_
 refine q0Q 1 rfl rfl (by rw [hel];decide) ?_ ?_ ?_
 · with_reducible refine sxE ?_;trivial
 · with_reducible refine sxE ?_
   omega
 with_reducible refine sxE ?_
 have hck:List.take 64 (endP r total 64 8)=endP r total 64 8:=Aa (by omega)
 rw [hck];refine gy2 hel Ab ?_;refine ⟨by omega,?_⟩
 refine q5q [.dead] hJ yg (i:=b.length / 64) (by omega) (fun n=>⟨_,_,⟨by rw [show blkAt (padT b total) (b.length / 64)=_ from q7i (padT b total) (b.length / 64) 0,hea,As],rfl⟩,q3m rfl⟩) fun c=> ?_
 cases c
 · refine gQ ?_;exact ⟨_,_,rfl,rfl,by omega⟩
 refine gQ ?_;exact ⟨_,_,rfl,rfl,by omega⟩
def foldB(h:List Int)(p:List UInt8):Nat→List Int
 |0=>h
 |k+1=>blkS (blkAt p k) (foldB h p k)
theorem q6h(p:List UInt8):∀k,foldB hS0 p k=hashS p k
 |0=>rfl
 |k+1=>by rw [foldB,q6h p k];rfl
theorem q1t{h:List Int}(hh:inWs h)(p:List UInt8):∀k,inWs (foldB h p k)
 |0=>hh
 |_+1=>q7o
def smH(h:List Int)(p:List UInt8)(i:Nat)(H':List SObj):Prop:=∃G,H'= .row .u8 (List.replicate 32 0) :: .row (.int .u32) (foldB h p i) :: G
theorem j4X(b:List UInt8)(hb:b.length≤70368744177664):PC Tryz.prog 254 [.isl .u8 b] (.dat (.arr 32 .u8) (shaS b)):=by
 refine q0p rfl rfl (z3v (q7q noFG fi254 ?_))
 letI:Ghost:=topG noFG []
 refine gQ ?_;refine q3R (t:=.arr 8 (.int .u32)) (x:=dat_sha_start) (ag:=some 8) (s:=.dat (.arr 8 (.int .u32)) dat_sha_start) (by unfold datList;repeat (first|exact .head _|apply List.Mem.tail)) rfl (.inr rfl) ?_
 refine gQ ?_;refine cQ (j1V b b.length hb) ?_;refine j6x (smH hS0 (padS b)) (fun _ _ _=>False) rfl rfl rfl (z1o b b.length hb hb) (fun i n args' new h=>by rw [h.1];rfl) ⟨[],rfl⟩ rfl ?_ ?_ ?_
 · rintro i _ args' new hi ⟨G,rfl⟩ ⟨rfl,rfl⟩ L1 L2
   letI:Ghost:=pinG noFG L1
   rw [Ai];refine uQ 600 _ ?_;simp only [putL,CJ];with_reducible refine sxaE ?_
   letI:Ghost:=pinG noFG L2
   refine aQ ?_;have hbl:(blkAt (padT b b.length) i).length=64:=z0Q (z0C b b.length) hi;refine eQ [1] (j5B (blkAt (padT b b.length) i) _ hbl (q1t q5r _ i)) ?_;exact ⟨G,rfl⟩
 · rintro D _ ⟨G,rfl⟩
   letI:Ghost:=topG noFG [D]
   have hv:=q1t q5r (padS b) (blksN b);have hfl:=hv.1;have hfe:bytesS (foldB hS0 (padS b) (blksN b))=shaS b:=by rw [q6h];rfl
   generalize foldB hS0 (padS b) (blksN b)=h at*;refine gQ ?_;have htk:List.take 8 h=h:=Aa (by omega)
   rw [htk];refine ⟨by omega,q0a (z7N h hv) ?_⟩
   have hbl:=q0V h;refine gy1 hbl ?_;rw [hfe]
 rintro D i ex _ hi h;exact h.elim
end Go.Proofs.YtmapiojgmbgbgaaGreatDoor
