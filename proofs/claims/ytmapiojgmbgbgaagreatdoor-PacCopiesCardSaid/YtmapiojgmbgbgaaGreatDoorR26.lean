/- A part of the proof: a symbolic executor over abstract values, and its soundness. -/
import Derived.Test.YtmapiojgmbgbgaaGreatDoorR25
import Derived.RangeFuncRecord
set_option linter.all false
namespace Go.Sx
open Go

variable {P:Program} {AQ:Ex→List SV→List SObj→Prop} {k0:Nat} {k:List It} {t:List SV} {H:List SObj}

structure Fr (Q:Nat→Prop) (C C':Cx):Prop where
 size:C.w.heap.size≤C'.w.heap.size
 os:C'.w.os=C.w.os
 tape:C'.w.tape=C.w.tape
 output:C'.w.output=C.w.output
 keep:Keeps C.I C'.I C.w C'.w
 sz:∀b m,World.bsize C.w b=some m→World.bsize C'.w b=some m
 frame:∀b,b<C.w.heap.size→¬Q b→C'.w.heap[b]?=C.w.heap[b]?
 imm:∀b,C'.I b→C.I b∨((C.w.heap.size≤b∨Q b)∧Unf C'.w b)
theorem Fr.trans{Q Q':Nat→Prop}{C C' C'':Cx}(h:Fr Q C C')(k:Fr Q' C' C'')(hq:∀b,Q' b→C.w.heap.size≤b∨Q b):Fr Q C C'' where
 size:=An h.size k.size
 os:=k.os.trans h.os
 tape:=k.tape.trans h.tape
 output:=k.output.trans h.output
 keep:=h.keep.trans k.keep
 sz:=fun b m hm=>k.sz b m (h.sz b m hm)
 frame:=fun b hb hn=>(k.frame b (Am hb h.size) fun h'=>(hq b h').elim (fun x=>absurd hb (AE.2 x)) hn).trans (h.frame b hb hn)
 imm:=fun b hb=>by
  rcases k.imm b hb with x| ⟨x,u⟩
  · exact orMap (h.imm b x) id fun ⟨y,u⟩=>⟨y,u.keep (k.keep b x).2⟩
  exact .inr ⟨x.elim (fun y=>.inl (An h.size y)) (hq b),u⟩
theorem Fr.mono{Q Q':Nat→Prop}{C C':Cx}(h:Fr Q C C')(hq:∀b,Q b→Q' b):Fr Q' C C' where
 size:=h.size
 os:=h.os
 tape:=h.tape
 output:=h.output
 keep:=h.keep
 sz:=h.sz
 frame:=fun b hb hn=>h.frame b hb fun x=>hn (hq b x)
 imm:=fun b hb=>orMap (h.imm b hb) id fun ⟨y,u⟩=>⟨orMap y id (hq b),u⟩
theorem z4d{um:Bool}{S:Nat→Prop}{C C':Cx}{H':List SObj}(hn:C.n=H.length)(k:Ext (startE um S C H) C' H'):Fr (fun b=>OwnB C H b∨S b) C C' where
 size:=k.size
 os:=k.os
 tape:=k.tape
 output:=k.output
 keep:=k.evo.I
 sz:=k.evo.sz
 frame:=fun b hb hq=>k.frame b hb fun ho=>hq (orMap ((q0Q hn).1 ho) id fun x=>x.1)
 imm:=fun b hb=>orMap (k.immNew b hb) id fun ⟨y,u⟩=>⟨orMap y id fun ho=>orMap ((q0Q hn).1 ho) id fun x=>x.1,u⟩
theorem z0k{um:Bool}{S:Nat→Prop}{C C':Cx}{H':List SObj}(hn:C.n=H.length)(k:Ext (startE um S C H) C' H'){b:Nat}(hb:OwnB C' H' b):C.w.heap.size≤b∨OwnB C H b∨S b:=
 orMap (k.ownNew b hb) id fun ho=>orMap ((q0Q hn).1 ho) id fun x=>x.1
theorem q7a{C:Cx}{D:Nat}{o:Obj}(hi:¬C.I D)(hf:FarAt C.w D):Evo C (chgC C D o):=⟨Af _,fun _ _=>rfl,fun b hb=>⟨hb,q1k fun e=>hi (e▸hb)⟩,q9j hf⟩
theorem j0A{C:Cx}{D:Nat}{o:Obj}(hi:¬C.I D)(hf:FarAt C.w D):Fr (fun b=>b=D) C (chgC C D o) where
 size:=by rw [q3v];exact Af _
 os:=rfl
 tape:=rfl
 output:=rfl
 keep:=(q7a hi hf).I
 sz:=q9j hf
 frame:=fun b _ hn=>q1k hn
 imm:=fun b hb=>.inl hb
theorem j3j{C:Cx}{D:Nat}{o:Obj}(hw:Wd C H)(hi:¬C.I D)(ho:¬OwnB C H D)(hf:FarAt C.w D):Wd (chgC C D o) H:=
 (z7L (w':=(chgC C D o).w) hw q3v (fun b hb=>q1k fun e=>hb.elim (e▸hi) (e▸ho)) (q9j hf)).1
theorem j2J{E:En}{C:Cx}{D:Nat}{o:Obj}(hx:Ext E C H)(hi:¬C.I D)(hf:FarAt C.w D)(hs:E.C.w.heap.size≤D):Ext E (chgC C D o) H:=
 ⟨hx.evo.trans (q7a hi hf),by rw [q3v];exact hx.size,hx.os,hx.tape,hx.output,fun b hb ho=>(q1k (by omega)).trans (hx.frame b hb ho),fun b hb=>orMap (hx.immNew b hb) id fun ⟨x,u⟩=>⟨x,u.keep (q1k fun e=>hi (e▸hb))⟩,hx.ownNew,hx.keep0⟩
structure Rnd (S:Nat→Prop) (C C':Cx) (H H':List SObj) (S':Nat→Prop):Prop where
 evo:Evo C C'
 fr:Fr (fun b=>S b∨OwnB C H b) C C'
 own:∀b,OwnB C' H' b→OwnB C H b
 fp:∀b,S' b→(C.w.heap.size≤b∨S b∨OwnB C H b)∧¬OwnB C' H' b

theorem z8R{B:Nat}{J:Nat→(Nat→Prop)→World→(Nat→Prop)→Prop}{E:EnD}{C C':Cx}{H':List SObj}{S S':Nat→Prop}(h:YCore B J E C H S)(r:Rnd S C C' H H' S')(hm:∃m,H'[0]?=some (.mark m)∧J m S' C'.w C'.I):
 (Ext E.toEn C H→Ext E.toEn C' H')∧YCore B J E C' H' S':=by
 have hp:∀b,S b∨OwnB C H b→Perm E.toEn b:=fun b hb=>hb.elim (fun x=>(h.fp b x).1) fun x=>(h.own b x).1
 refine ⟨fun hx=>⟨hx.evo.trans r.evo,An hx.size r.fr.size,r.fr.os.trans hx.os,r.fr.tape.trans hx.tape,r.fr.output.trans hx.output,fun b h1 h2=> ?_,fun b hb=> ?_,fun b hb=>hx.ownNew b (r.own b hb),fun m _ hm=>absurd hm (h.unm m)⟩,
  ⟨h.pos,An h.n r.evo.n,h.unm,h.lo,An h.sz r.fr.size,fun b hb=>h.own b (r.own b hb),hm,fun b hb=>⟨?_,(r.fp b hb).2⟩⟩⟩
 · exact (r.fr.frame b (Am h1 hx.size) fun hq=>(hp b hq).elim (fun x=>absurd h1 (AE.2 x)) h2).trans (hx.frame b h1 h2)
 · rcases r.fr.imm b hb with x| ⟨x,u⟩
   · exact orMap (hx.immNew b x) id fun ⟨y,u⟩=>⟨y,u.keep (r.fr.keep b x).2⟩
   exact .inr ⟨x.elim (fun y=>.inl (An hx.size y)) (hp b),u⟩
 rcases (r.fp b hb).1 with x|x
 · exact .inl (An h.sz x)
 exact hp b x

theorem j1V{S S':Nat→Prop}{C C':Cx}{H':List SObj}(r:Rnd S C C' H H' S')(h:TabT C H)(hS:∀b,S b→¬TBlk b):TabT C' H':=
 h.keep r.evo.I fun b hT hb ho=>⟨Am hb r.fr.size,fun x=>ho (r.own b x),r.fr.frame b hb fun y=>y.elim (fun z=>hS b z hT) ho⟩
def Hand(n:Nat)(H H':List SObj)(args args':List SV)(new:List SObj):Prop:=
 ∀ (C Cc:Cx) (Hc:List SObj) (vs:List Value),Wd C H→SV.denL C args vs→Wd Cc Hc→Hc.length=n→Cc.w=C.w→(∀b,Cc.I b ↔ C.I b)→(∀b,OwnB C H b→¬OwnB Cc Hc b)→
  ∃C2 Cc2:Cx,C2.w=C.w∧C2.I=C.I∧Wd C2 H'∧Evo C C2∧(∀b,OwnB C2 H' b→OwnB C H b)∧Cc2.w=C.w∧Cc2.I=Cc.I∧Wd Cc2 (Hc++new)∧Evo Cc Cc2∧SV.denL Cc2 args' vs∧(∀b,OwnB Cc2 (Hc++new) b→OwnB Cc Hc b∨(OwnB C H b∧¬OwnB C2 H' b))
theorem q2W{n:Nat}{args:List SV}(hc:SV.cleanL args=true):Hand n H H args args []:=fun C Cc Hc vs hw hv hwc _ e hi _=>
 ⟨C,Cc,rfl,rfl,hw,Evo.refl _,fun _ h=>h,e,rfl,by rw [Aj];exact hwc,Evo.refl _,q1n (C:=C) (C':=Cc) (fun b hb=>⟨(hi b).2 hb,by rw [e]⟩) hc hv,fun b hb=>.inl (by rwa [Aj] at hb)⟩

def YG(P:Program)(l B N:Nat)(J:Nat→(Nat→Prop)→World→(Nat→Prop)→Prop)(vw:Nat→Nat→List SV→List SObj→Prop):Prop:=
 ∀ (i:Nat) (T T':List SObj) (args:List SV) (C:Cx) (S:Nat→Prop) (vs:List Value),i<N→Wd C (.mark i :: T)→J i S C.w C.I→(∀b,OwnB C (.mark i :: T) b→B≤b∧¬S b)→SV.denL C args vs→
  (∀n,∃args' new,vw i n args' new∧Hand n (.mark i :: T) (.mark i :: T') args args' new)→
  ∃f tmps assign body,(Instr.yield l vs.toArray).run P C.w= .ok (.round l f tmps assign body) C.w∧
   ∀ (r:Option Nat) (n:Nat),RoundIn (Fw r) n P l f tmps assign body C.w fun e w'=>∃ (b:Bool) (C':Cx) (S':Nat→Prop),e= .returned (.bool b)∧C'.w=w'∧
    Wd C' (.mark (if b then i+1 else N+1+i) :: T')∧J (if b then i+1 else N+1+i) S' C'.w C'.I∧Rnd S C C' (.mark i :: T) (.mark (if b then i+1 else N+1+i) :: T') S'

theorem vyld{G:Ghost}{l B N:Nat}{J:Nat→(Nat→Prop)→World→(Nat→Prop)→Prop}{vw:Nat→Nat→List SV→List SObj→Prop}{i:Nat}{T T':List SObj}{args:List SV}{K:Out→List SObj→Prop}
 (hG:∀ {E C},G.inv E C (.mark i :: T)→∃S,YCore B J E C (.mark i :: T) S∧∀ (C':Cx) (H':List SObj) (S':Nat→Prop),YCore B J E C' H' S'→Rnd S C C' (.mark i :: T) H' S'→G.inv E C' H')
 (hJ:FJ B J)(yg:YG P l B N J vw)(hi:i<N)(hh:∀n,∃args' new,vw i n args' new∧Hand n (.mark i :: T) (.mark i :: T') args args' new)
 (hk:∀b:Bool,K (.ret (.raw (.bool b))) (.mark (if b then i+1 else N+1+i) :: T')): @VYld G P l args (.mark i :: T) K:=by
 intro E C vs hw hg hv;obtain ⟨S,hc,hback⟩:=hG hg;obtain ⟨m,h1,h2⟩:=hc.st;have e:m=i:=by simpa using h1.symm
 subst e;obtain ⟨f,tmps,assign,body,hrun,hround⟩:=yg m T T' args C S vs hi hw h2 (fun b hb=>⟨(hc.own b hb).2,fun hs=>(hc.fp b hs).2 hb⟩) hv hh;refine ⟨f,tmps,assign,body,hrun,fun r n=>(hround r n).mono ?_⟩;rintro e w' ⟨b,C',S',rfl,rfl,k1,k2,k3⟩;obtain ⟨x1,x2⟩:=z8R hc k3 ⟨_,rfl,k2⟩;exact ⟨.raw (.bool b),_,C',.bool b,rfl,hk b,rfl,k1, @Stp.mk G E C _ C' _ k3.evo x1 fun _=>hback C' _ S' x2 k3,by rw [SV.den]⟩
theorem z8O{Ds:List Nat}{l B N:Nat}{J:Nat→(Nat→Prop)→World→(Nat→Prop)→Prop}{vw:Nat→Nat→List SV→List SObj→Prop}{i:Nat}{T T':List SObj}{args:List SV}{K:Out→List SObj→Prop}
 (hJ:FJ B J)(yg:YG P l B N J vw)(hi:i<N)(hh:∀n,∃args' new,vw i n args' new∧Hand n (.mark i :: T) (.mark i :: T') args args' new)
 (hk:∀b:Bool,K (.ret (.raw (.bool b))) (.mark (if b then i+1 else N+1+i) :: T')): @VYld (topG (yFG hJ) Ds) P l args (.mark i :: T) K:=by
 refine @vyld P (topG (yFG hJ) Ds) l B N J vw i T T' args K (fun {E C} hg=> ?_) hJ yg hi hh hk;obtain ⟨ht,⟨S,hc⟩,hnd,hok⟩:=hg;refine ⟨S,hc,fun C' H' S' hc' hr=>⟨⟨j1V hr ht.tab fun b hb=>(yFG hJ).nt hc hb,ht.old⟩,⟨S',hc'⟩,hnd,fun D hD=> ?_⟩⟩;have m:=hok D hD;have hlt:D<C.w.heap.size:=(Az.1 m.at_).1;have hS:¬S D:=fun hs=>absurd ((yFG hJ).lo hc hs m.far) (AE.2 m.sz);refine ⟨m.sz,fun hi=> ?_,fun ho=>m.own (hr.own _ ho),(hr.fr.frame _ hlt fun hq=>hq.elim hS m.own).trans m.at_⟩;exact (hr.fr.imm _ hi).elim m.imm fun ⟨y,_⟩=>y.elim (fun y=>absurd hlt (AE.2 y)) fun y=>y.elim hS m.own

def Iter(P:Program)(f:FuncId)(fi ca:List SV)(N:Nat)(vw:Nat→Nat→List SV→List SObj→Prop):Prop:=
 enters P f=true∧∀ (l B:Nat) (J:Nat→(Nat→Prop)→World→(Nat→Prop)→Prop) (hJ:FJ B J),YG P l B N J vw→
  @VCallG (fgG (yFG hJ)) P f (fi++ [.raw (.func (.yield l) #[] #[])]++ca) [.mark 0] fun o H'=>∃s m,o= .ret s∧H'[0]?=some (.mark m)∧N≤m
def IterI(inf:Prop)(P:Program)(f:FuncId)(fi ca:List SV)(N:Nat)(vw:Nat→Nat→List SV→List SObj→Prop):Prop:=
 enters P f=true∧∀ (l B:Nat) (J:Nat→(Nat→Prop)→World→(Nat→Prop)→Prop) (hJ:FJ B J),YG P l B N J vw→(inf→∀S w I,¬J N S w I)→
  @VCallG (fgG (yFG hJ)) P f (fi++ [.raw (.func (.yield l) #[] #[])]++ca) [.mark 0] fun o H'=>∃s m,o= .ret s∧H'[0]?=some (.mark m)∧N≤m
theorem Iter.toI{inf:Prop}{f:FuncId}{fi ca:List SV}{N:Nat}{vw:Nat→Nat→List SV→List SObj→Prop}(h:Iter P f fi ca N vw):IterI inf P f fi ca N vw:=⟨h.1,fun l B J hJ yg _=>h.2 l B J hJ yg⟩
end Go.Sx
namespace Go.Sx
open Go

variable {P:Program} {AQ:Ex→List SV→List SObj→Prop} {k0:Nat} {k:List It} {t:List SV} {H:List SObj}

def putL:List Tmp→List SV→List SV→List SV
 |p :: ps,s :: l,t=>putL ps l (t.set p s)
 |_,_,t=>t
theorem z0p{C:Cx}:∀ (ps:List Tmp) (l:List SV) (vs:List Value) (t:List SV) (us:Array Value),SV.denL C l vs→SV.denL C t us.toList→SV.denL C (putL ps l t) ((ps.zip vs).foldl (fun tm x=>tm.setIfInBounds x.1 x.2) us).toList
 | [],_,_,_,_,_,ht=>by simpa [putL] using ht
 |p :: ps,[],vs,t,us,hl,ht=>by rw [q0o] at hl;subst hl;simpa [putL] using ht
 |p :: ps,s :: l,vs,t,us,hl,ht=>by
  obtain ⟨v,vs',rfl,h1,h2⟩:=q0c.1 hl;simp only [putL,List.zip_cons_cons,Bv];exact z0p ps l vs' _ _ h2 (by rw [BL];exact q1W ht h1)
theorem j0i{C:Cx}{ps:Array Tmp}{l:List SV}{vs:List Value}{t:List SV}{us:Array Value}(hl:SV.denL C l vs)(ht:SV.denL C t us.toList):SV.denL C (putL ps.toList l t) ((ps.zip vs.toArray).foldl (fun tm (p,v)=>tm.setIfInBounds p v) us).toList:=by
 have:=z0p ps.toList l vs t us hl ht;rw [←CM,Array.toList_zip];exact this

theorem Fr.congr{Q:Nat→Prop}{A A' B B':Cx}(h:Fr Q A B)(e1:A'.w=A.w)(i1:∀b,A'.I b ↔ A.I b)(e2:B'.w=B.w)(i2:∀b,B'.I b ↔ B.I b):Fr Q A' B' where
 size:=by rw [e1,e2];exact h.size
 os:=by rw [e1,e2];exact h.os
 tape:=by rw [e1,e2];exact h.tape
 output:=by rw [e1,e2];exact h.output
 keep:=fun b hb=>⟨(i2 b).2 (h.keep b ((i1 b).1 hb)).1,by rw [e1,e2];exact (h.keep b ((i1 b).1 hb)).2⟩
 sz:=by rw [e1,e2];exact h.sz
 frame:=by rw [e1,e2];exact h.frame
 imm:=fun b hb=>by rw [e1,e2];exact (h.imm b ((i2 b).1 hb)).imp (i1 b).2 id
theorem j4v{Q:Nat→Prop}{C C':Cx}(hw:Wd C H)(hf:Fr Q C C')(hq:∀b,OwnB C H b→¬Q b)(hr:C'.ρ=C.ρ)(hn:C'.n=C.n)(hi:∀b,C'.I b→b<C'.w.heap.size):Wd C' H∧Evo C C':=by
 have he:Evo C C':=⟨by rw [hn];exact Af _,fun h _=>by rw [hr],hf.keep,hf.sz⟩
 have hown:∀b,OwnB C' H b→OwnB C H b:=fun b ⟨h,o,ho,hl,hb⟩=>⟨h,o,ho,hl,by rw [←hr];exact hb⟩
 refine ⟨⟨by rw [hn];exact hw.n,fun h o ho=> ?_,fun b hb=> ?_,fun h h' o o' b h1 h2 h3 h4 h5 h6=>hw.inj h h' o o' b h1 h2 h3 h4 (by rw [←hr];exact h5) (by rw [←hr];exact h6),hi⟩,he⟩
 · by_cases hl:o.live=true
   · exact q0A he.I h (by rw [hr]) (fun b hb=>hf.frame b (hw.own b ⟨h,o,ho,hl,hb⟩).2 (hq b ⟨h,o,ho,hl,hb⟩)) (q0d he) (hw.obj h o ho)
   cases o<;>first|trivial|simp [SObj.live] at hl
 have h1:=hown b hb;have h2:=hw.own b h1;exact ⟨fun hi=>(hf.imm b hi).elim h2.1 fun ⟨x,_⟩=>x.elim (fun y=>absurd h2.2 (AE.2 y)) (hq b h1),Am h2.2 hf.size⟩
theorem z4e{C:Cx}{i j:Nat}{T:List SObj}{b:Nat}(h:OwnB C (.mark i :: T) b):OwnB C (.mark j :: T) b:=by
 obtain ⟨x,o,ho,hl,hb⟩:=h;cases x with
 |zero=>simp at ho;subst ho;simp [SObj.live] at hl
 |succ x=>exact ⟨x+1,o,by simpa using ho,hl,hb⟩
theorem j1N{C:Cx}{i j:Nat}{T:List SObj}(h:Wd C (.mark i :: T)):Wd C (.mark j :: T):=by
 have hget:∀ {x:Nat} {o:SObj},(SObj.mark j :: T)[x]?=some o→o.live=true→(SObj.mark i :: T)[x]?=some o:=fun {x o} ho hl=>by
  cases x with
  |zero=>simp at ho;subst ho;simp [SObj.live] at hl
  |succ x=>simpa using ho
 refine ⟨h.n,fun x o ho=> ?_,fun b hb=>h.own b (z4e hb),fun x x' o o' b h1 h2 h3 h4=>h.inj x x' o o' b (hget h1 h3) (hget h2 h4) h3 h4,h.imm⟩;by_cases hl:o.live=true
 · exact h.obj x o (hget ho hl)
 cases o<;>first|trivial|simp [SObj.live] at hl

structure Cal (g:FG) (E:EnD) (Ds:List Nat) (t:List SV) (tms:List Value) (l:Nat) (o:Obj) (C:Cx) (H:List SObj) (S:Nat→Prop):Prop where
 wd:Wd C H
 ext:Ext E.toEn C H
 core:g.core E C H S
 tmps:SV.denL C t tms
 marks:∀D∈Ds,MarkOk E.toEn C H D
 lne:l ∉ Ds
 lsz:E.C.w.heap.size≤l
 limm:¬C.I l
 lown:¬OwnB C H l
 lat:C.w.heap[l]?=some o
 lfar:far o
 tab:TabE E.toEn C H
def calS(Ds:List Nat)(l:Nat)(C:Cx)(H:List SObj)(S:Nat→Prop)(b:Nat):Prop:=OwnB C H b∨S b∨b=l∨b∈Ds
variable {g:FG} {E:EnD} {Ds:List Nat} {tms:List Value} {l:Nat} {o:Obj} {C:Cx} {S:Nat→Prop}

theorem Cal.fp(h:Cal g E Ds t tms l o C H S){b:Nat}(hb:calS Ds l C H S b):¬C.I b∧b<C.w.heap.size:=by
 rcases hb with x|x|x|x
 · exact h.wd.own b x
 · exact ⟨(g.perm h.core x).2.1,(g.perm h.core x).2.2.2⟩
 · subst x;exact ⟨h.limm,(Az.1 h.lat).1⟩
 exact ⟨(h.marks b x).imm,(Az.1 (h.marks b x).at_).1⟩
theorem Cal.abide{B:Nat}{w':World}{I':Nat→Prop}(h:Cal g E Ds t tms l o C H S)(hB:E.C.w.heap.size≤B)(hs:C.w.heap.size≤w'.heap.size)(hf:∀b,b<C.w.heap.size→(b<B∨calS Ds l C H S b∨C.I b)→w'.heap[b]?=C.w.heap[b]?)
 (h1:w'.os=C.w.os)(h2:w'.tape=C.w.tape)(h3:w'.output=C.w.output)(hz:∀b m,World.bsize C.w b=some m→World.bsize w' b=some m)(hI:∀b,C.I b→I' b)(hI':∀b,I' b→C.I b∨(B≤b∧¬calS Ds l C H S b∧Unf w' b))(hlt:∀b,I' b→b<w'.heap.size):
 Cal g E Ds t tms l o {C with w:=w',I:=I'} H S:=by
 have hk:Keeps C.I I' C.w w':=fun b hb=>⟨hI b hb,hf b (h.wd.imm b hb) (.inr (.inr hb))⟩;have he:Evo C {C with w:=w',I:=I'}:=⟨Af _,fun _ _=>rfl,hk,hz⟩
 refine ⟨⟨h.wd.n,fun x o ho=> ?_,fun b hb=> ?_,h.wd.inj,hlt⟩,⟨h.ext.evo.trans he,An h.ext.size hs,h1.trans h.ext.os,h2.trans h.ext.tape,h3.trans h.ext.output,fun b hb hn=> ?_,fun b hb=> ?_,h.ext.ownNew,h.ext.keep0⟩,?_,q0d he h.tmps,fun D hD=> ?_,h.lne,h.lsz,?_,h.lown,?_,h.lfar,⟨h.tab.tab.keep hk fun b hT hb ho=>⟨Am hb hs,ho,hf b hb (.inl (Am (h.tab.old b hT) hB))⟩,h.tab.old⟩⟩
 · by_cases hl:o.live=true
   · exact q0A (C':={C with w:=w',I:=I'}) hk x rfl (fun b hb=>hf b (h.wd.own b ⟨x,o,ho,hl,hb⟩).2 (.inr (.inl (.inl ⟨x,o,ho,hl,hb⟩)))) (q0d he) (h.wd.obj x o ho)
   cases o<;>first|trivial|simp [SObj.live] at hl
 · have:=h.wd.own b hb;exact ⟨fun hi=>(hI' b hi).elim this.1 fun y=>y.2.1 (.inl hb),Am this.2 hs⟩
 · exact (hf b (Am hb h.ext.size) (.inl (Am hb hB))).trans (h.ext.frame b hb hn)
 · rcases hI' b hb with x|x
   · exact orMap (h.ext.immNew b x) id fun ⟨y,u⟩=>⟨y,u.keep (hk b x).2⟩
   exact .inr ⟨.inl (An hB x.1),x.2.2⟩
 · refine g.abide h.core hs (fun b hb hc=>hf b hb ?_) (fun b hb=>(hk b hb).2) h1 h2 h3 hz hI fun b hb=>orMap (hI' b hb) id fun x=>⟨An hB x.1,fun y=>x.2.1 (.inr (.inl y)),fun y=>x.2.1 (.inl y),x.2.2⟩;rcases hc with x|x|x|x
   · exact .inl (Am x hB)
   · exact .inr (.inl (.inr (.inl x)))
   · exact .inr (.inr x)
   exact .inr (.inl (.inl x))
 · have m:=h.marks D hD;exact ⟨m.sz,fun hi=>(hI' D hi).elim m.imm fun y=>y.2.1 (.inr (.inr (.inr hD))),m.own,(hf D (Az.1 m.at_).1 (.inr (.inl (.inr (.inr (.inr hD)))))).trans m.at_⟩
 · exact fun hi=>(hI' l hi).elim h.limm fun y=>y.2.1 (.inr (.inr (.inl rfl)))
 exact (hf l (Az.1 h.lat).1 (.inr (.inl (.inr (.inr (.inl rfl)))))).trans h.lat
theorem Cal.chg(h:Cal g E Ds t tms l o C H S){o':Obj}(ho:far o'):Cal g E Ds t tms l o' (chgC C l o') H S:=by
 have hf:FarAt C.w l:=⟨o,h.lat,h.lfar⟩;refine ⟨j3j h.wd h.limm h.lown hf,j2J h.ext h.limm hf h.lsz,g.chg h.core h.lsz h.limm h.lown hf,q0d (q7a h.limm hf) h.tmps,fun D hD=> ?_,h.lne,h.lsz,h.limm,h.lown,j1x h.lat,ho,⟨h.tab.tab.keep (q7a h.limm hf).I fun b hT hb ho=>⟨by rw [q3v];exact hb,ho,q1k fun e=>absurd (h.tab.old b hT) (AE.2 (e▸h.lsz))⟩,h.tab.old⟩⟩
 have m:=h.marks D hD;exact ⟨m.sz,m.imm,m.own,(q1k (D:=l) fun e=>h.lne (e▸hD)).trans m.at_⟩

def exC:Ex→Option Code
 |.ret=>some .ret
 |.exit id=>some (.exit id)
 |_=>none
def rfAt(N:Nat)(Hs:Nat→List SObj→Prop)(X:Nat→Ex→List SObj→Prop)(rec:LoopState→Option Code→Loop)(m:Nat)(H:List SObj)(o:Obj):Prop:=
 (m≤N∧Hs m H∧o= .loop (rec .ready none))∨∃i ex c,m=N+1+i∧i<N∧X i ex H∧exC ex=some c∧o= .loop (rec .done (some c))
def rfJ(g:FG)(E:EnD)(Ds:List Nat)(t:List SV)(tms:List Value)(l N:Nat)(Hs:Nat→List SObj→Prop)(X:Nat→Ex→List SObj→Prop)(rec:LoopState→Option Code→Loop)(m:Nat)(S:Nat→Prop)(w:World)(I:Nat→Prop):Prop:=
 ∃ (C:Cx) (S0:Nat→Prop) (H:List SObj) (o:Obj),C.w=w∧(∀b,C.I b ↔ I b∧b<w.heap.size)∧Cal g E Ds t tms l o C H S0∧(∀b,S b ↔ calS Ds l C H S0 b)∧rfAt N Hs X rec m H o
theorem j3p{N B:Nat}{Hs:Nat→List SObj→Prop}{X:Nat→Ex→List SObj→Prop}{rec:LoopState→Option Code→Loop}(hB:E.C.w.heap.size≤B)(hl:l<B)(hD:∀D∈Ds,D<B):FJ B (rfJ g E Ds t tms l N Hs X rec) where
 abide:=by
  rintro m S w I w' I' ⟨C,S0,H,o,rfl,hI,hc,hS,hat⟩ hs hf hkI h1 h2 h3 hz hi hi';refine ⟨{C with w:=w',I:=fun b=>I' b∧b<w'.heap.size},S0,H,o,rfl,fun b=>Iff.rfl,hc.abide hB hs (fun b hb hx=>hf b hb ?_) h1 h2 h3 hz (fun b hb=>⟨hi b ((hI b).1 hb).1,Am ((hI b).1 hb).2 hs⟩) (fun b hb=> ?_) (fun b hb=>hb.2),hS,hat⟩
  · rcases hx with x|x|x
    · exact .inl x
    · exact .inr (.inl ((hS b).2 x))
    exact .inr (.inr ((hI b).1 x).1)
  rcases hi' b hb.1 with x|x
  · rcases AB b C.w.heap.size with y|y
    · exact .inl ((hI b).2 ⟨x,y⟩)
    have hn:=hkI b x;rw [Bm y] at hn;exact absurd hb.2 (AE.2 (Array.getElem?_eq_none_iff.1 hn))
  exact .inr ⟨x.1,fun y=>x.2.1 ((hS b).2 y),x.2.2⟩
 fp:=by
  rintro m S w I b ⟨C,S0,H,o,rfl,hI,hc,hS,hat⟩ hb;have:=hc.fp ((hS b).1 hb);exact ⟨fun hi=>this.1 ((hI b).2 ⟨hi,this.2⟩),this.2⟩
 nt:=by
  rintro m S w I b ⟨C,S0,H,o,rfl,hI,hc,hS,hat⟩ hb hT;rcases (hS b).1 hb with x|x|x|x
  · exact hc.tab.tab.own b hT x
  · exact g.nt hc.core x hT
  · exact absurd (hc.tab.old b hT) (AE.2 (x▸hc.lsz))
  exact absurd (hc.tab.old b hT) (AE.2 (hc.marks b x).sz)
 lo:=by
  rintro m S w I b ⟨C,S0,H,o,rfl,hI,hc,hS,hat⟩ hb hf;rcases (hS b).1 hb with x|x|x|x
  · exact absurd hf (z4z hc.wd x)
  · exact Am (g.lo hc.core x hf) hB
  · subst x;exact hl
  exact hD b x
end Go.Sx
namespace Go.Sx
open Go

variable {P:Program} {AQ:Ex→List SV→List SObj→Prop} {k0:Nat} {k:List It} {t:List SV} {H:List SObj}
variable {g:FG} {E:EnD} {Ds:List Nat} {tms:List Value} {l:Nat} {o:Obj} {C C':Cx} {H':List SObj} {S S':Nat→Prop}

def calL(Ds:List Nat)(l:Nat)(o:Obj):List (Nat×Obj):=(l,o) :: Ds.map fun D=>(D,.deferred (some []))
theorem Cal.pins(h:Cal g E Ds t tms l o C H S):Pins (calL Ds l o) C H S:=by
 intro x hx;rcases Bs.1 hx with rfl|hx
 · exact ⟨h.limm,h.lown,fun hs=>absurd (g.lo h.core hs ⟨o,h.lat,h.lfar⟩) (AE.2 h.lsz),h.lat,h.lfar⟩
 obtain ⟨D,hD,rfl⟩:=BX.1 hx;have m:=h.marks D hD;exact ⟨m.imm,m.own,fun hs=>absurd (g.lo h.core hs m.far) (AE.2 m.sz),m.at_,trivial⟩
theorem Cal.run(h:Cal g E Ds t tms l o C H S)(hx:Ext (startE g.um S C H).toEn C' H')(hw:Wd C' H')(hcore:g.core (startE g.um S C H) C' H' S')(hp:Pins (calL Ds l o) C' H' S'):Cal g E Ds t tms l o C' H' S':=by
 obtain ⟨q1,q2,q3,q4,q5⟩:=hp (l,o) (by simp [calL])
 refine ⟨hw,z1f h.wd h.ext (fun b hb=>(g.perm h.core hb).1) (fun hu=>g.unm hu h.core) hx,g.back h.wd h.core hx hcore,q0d (q4a hx.evo) h.tmps,fun D hD=> ?_,h.lne,h.lsz,q1,q2,q4,q5,⟨(q7X h.wd.n h.tab.tab fun b hb=>g.nt h.core hb).next hx,h.tab.old⟩⟩
 obtain ⟨p1,p2,p3,p4,p5⟩:=hp (D,.deferred (some [])) (by simp [calL];exact .inr hD)
 exact ⟨(h.marks D hD).sz,p1,p2,p4⟩

def RQ(Hs:Nat→List SObj→Prop)(X:Nat→Ex→List SObj→Prop)(i:Nat):Ex→List SV→List SObj→Prop
 |.normal,_,H'=>Hs (i+1) H'
 |.ret,_,H'=>X i .ret H'
 |.exit id,_,H'=>X i (.exit id) H'
 |.pan _,_,_=>False
structure RfOk (P:Program) (g:FG) (ps:Array Tmp) (assign body:Code) (t:List SV) (N:Nat) (vw:Nat→Nat→List SV→List SObj→Prop) (Hs:Nat→List SObj→Prop) (X:Nat→Ex→List SObj→Prop):Prop where
 len:∀i n args' new,vw i n args' new→args'.length=ps.size
 round:∀i Hi args' new,i<N→Hs i Hi→vw i Hi.length args' new→∀L1 L2,∃Φ,(∀t' H',Φ t' H'→ @Sound (pinG g L2) P (RQ Hs X i) ⟨H'.length,[.code body],t',H'⟩)∧
  @Sound (pinG g L1) P (fun _ _ _=>False) ⟨(Hi++new).length,[.code assign,.stop Φ],putL ps.toList args' t,Hi++new⟩
@[reducible] def rfRec(fn:FuncId)(us:Array Value)(ps:Array Tmp)(assign body:Code)(D:Nat)(st:LoopState)(pe:Option Code):Loop:={state:=st,pending:=pe,fn,tmps:=us,params:=ps,assign,body,defers:=D}

theorem z5f{ps:Array Tmp}{assign body:Code}{N B:Nat}{vw:Nat→Nat→List SV→List SObj→Prop}{Hs:Nat→List SObj→Prop}{X:Nat→Ex→List SObj→Prop}{fn:FuncId}{us:Array Value}{D:Nat}
 (hr:RfOk P g ps assign body t N vw Hs X)(hB:E.C.w.heap.size≤B):YG P l B N (rfJ g E Ds t us.toList l N Hs X (rfRec fn us ps assign body D)) vw:=by
 rintro i T T' args C S vs hi hw ⟨Cc,S0,Hm,o,e1,hI,hc,hS,hst⟩ hown hv hh;obtain ⟨hHs,rfl⟩:Hs i Hm∧o= .loop (rfRec fn us ps assign body D .ready none):=by
  rcases hst with ⟨_,h1,h2⟩ | ⟨i',_,_,h,_⟩
  · exact ⟨h1,h2⟩
  omega
 have hI':∀b,Cc.I b ↔ C.I b:=fun b=>(hI b).trans ⟨fun h=>h.1,fun h=>⟨h,hw.imm b h⟩⟩;obtain ⟨args',new,hvw,hhand⟩:=hh Hm.length;have hsep:∀b,OwnB C (.mark i :: T) b→¬calS Ds l Cc Hm S0 b:=fun b hb h=>(hown b hb).2 ((hS b).2 h);obtain ⟨C2,Cc2,a1,a2,a3,a4,a5,b1,b2,b3,b4,b5,b6⟩:=hhand C Cc Hm vs hw hv hc.wd rfl e1 hI' (fun b hb hcb=>hsep b hb (.inl hcb));have e2:Cc2.w=Cc.w:=b1.trans e1.symm;have hown2:∀b,OwnB Cc2 (Hm++new) b→OwnB Cc Hm b∨(E.C.w.heap.size≤b∧OwnB C (.mark i :: T) b∧¬OwnB C2 (.mark i :: T') b):=fun b hb=>orMap (b6 b hb) id fun h=>⟨An hB (hown b h.1).1,h⟩;have hc2:Cal g E Ds t us.toList l (.loop (rfRec fn us ps assign body D .ready none)) Cc2 (Hm++new) S0:=by
  refine ⟨b3,⟨hc.ext.evo.trans b4,by rw [e2];exact hc.ext.size,by rw [e2];exact hc.ext.os,by rw [e2];exact hc.ext.tape,by rw [e2];exact hc.ext.output,fun b h1 h2=>by rw [e2];exact hc.ext.frame b h1 h2,fun b hb=> ?_,fun b hb=> ?_,fun m h0 hm=>q2k (hc.ext.keep0 m h0 hm)⟩,?_,q0d b4 hc.tmps,fun D' hD=> ?_,hc.lne,hc.lsz,by rw [b2];exact hc.limm,fun ho=> ?_,by rw [e2];exact hc.lat,hc.lfar,⟨hc.tab.tab.keep b4.I fun b hT hb ho=>⟨by rw [e2];exact hb,fun x=>(hown2 b x).elim ho fun y=>absurd (hc.tab.old b hT) (AE.2 y.1),by rw [e2]⟩,hc.tab.old⟩⟩
  · rw [b2] at hb;rw [e2];exact hc.ext.immNew b hb
  · exact (hown2 b hb).elim (hc.ext.ownNew b) fun x=>.inl x.1
  · exact g.own hc.wd e2 (fun b h=>by rw [b2];exact h) (fun b h=>by rw [b2] at h;exact .inl h) (fun b hb=>orMap (hown2 b hb) id fun x=>⟨x.1,fun h=>hsep b x.2.1 (.inr (.inl h))⟩) (fun m _ hm=>q2k hm) (An hc.ext.evo.n b4.n) hc.core
  · have m:=hc.marks D' hD;exact ⟨m.sz,by rw [b2];exact m.imm,fun ho=>(hown2 D' ho).elim m.own fun x=>hsep D' x.2.1 (.inr (.inr (.inr hD))),by rw [e2];exact m.at_⟩
  exact (hown2 l ho).elim hc.lown fun x=>hsep l x.2.1 (.inr (.inr (.inl rfl)))
 have hn2:Cc2.n=(Hm++new).length:=b3.n;have hlc:C.w.heap[l]?=some (.loop (rfRec fn us ps assign body D .ready none)):=by rw [←e1];exact hc.lat
 have hvl:vs.toArray.size=ps.size:=by have:=q0t b5;rw [AN,this,hr.len _ _ _ _ hvw]
 refine ⟨fn,_,assign,body,run_yield (P:=P) hlc hvl,fun r n=>roundIn_of_wpIn (q4q r fn) ?_⟩;have hd1: @Den (pinG g (calL Ds l (.loop (rfRec fn us ps assign body D .ready none)))) (startE g.um S0 Cc2 (Hm++new)) Cc2 (putL ps.toList args' t) (Hm++new) {tmps:=(ps.zip vs.toArray).foldl (fun tm (p,v)=>tm.setIfInBounds p v) us,defers:=[]}:=
  ⟨b3,q5y hn2,⟨rfl,⟨hc2.tab.tab,hc2.tab.tab.lt⟩,S0,g.start b3 hc2.core,hc2.pins⟩,j0i b5 hc2.tmps⟩
 obtain ⟨Φ,hbody,hasg⟩:=hr.round i Hm args' new hi hHs hvw (calL Ds l (.loop (rfRec fn us ps assign body D .ready none))) (calL Ds l (.loop (rfRec fn us ps assign body D .busy none)));have h1:=hasg (startE g.um S0 Cc2 (Hm++new)) (some l) n Cc2 _ ⟨CT hn2,trivial⟩ hd1;simp only [wpT] at h1;refine wpIn_mono (by rw [←b1];exact h1) fun e a w hq=> ?_
 clear h1;cases e with
 |exit id=>simp only [exitT] at hq;obtain ⟨_,_,_,h,_⟩:=hq;exact h.elim
 |ret=>obtain ⟨_,_,_,h,_⟩:=hq;exact h.elim
 |panic ch=>obtain ⟨_,_,_,_,_,h,_⟩:=hq;exact h.elim
 |goto _=>exact hq.elim
 |outgrown=>exact hq.elim
 |normal=>
  obtain ⟨C',t',H',hΦ,rfl,hd⟩:=hq;obtain ⟨hdf,_,S1,hcore1,hp1⟩:=hd.defs;have hcal1:=hc2.run hd.ext hd.wd hcore1 hp1;have hfar1:FarAt C'.w l:=⟨_,hcal1.lat,hcal1.lfar⟩;have hcal2:=hcal1.chg (o':=.loop (rfRec fn us ps assign body D .busy none)) trivial;refine ⟨_,run_beginRound hcal1.lat rfl,?_⟩;have hd2: @Den (pinG g (calL Ds l (.loop (rfRec fn us ps assign body D .busy none)))) (startE g.um S1 (chgC C' l (.loop (rfRec fn us ps assign body D .busy none))) H') (chgC C' l (.loop (rfRec fn us ps assign body D .busy none))) t' H' a:=
   ⟨hcal2.wd,q5y hcal2.wd.n,⟨hdf,⟨hcal2.tab.tab,hcal2.tab.tab.lt⟩,S1,g.start hcal2.wd hcal2.core,hcal2.pins⟩,q0d (q7a hcal1.limm hfar1) hd.tmps⟩
  have h2:=hbody _ _ hΦ _ (some l) n _ a ⟨CT hcal2.wd.n,trivial⟩ hd2;simp only [wpT] at h2;refine wpIn_mono h2 fun e3 a9 w3 hq3=> ?_;clear h2;have fin:∀ {C3:Cx} {t3:List SV} {H3:List SObj} (jump:Option Code), @DenF (pinG g (calL Ds l (.loop (rfRec fn us ps assign body D .busy none)))) (startE g.um S1 (chgC C' l (.loop (rfRec fn us ps assign body D .busy none))) H') C3 t3 H3 a9→
   rfAt N Hs X (rfRec fn us ps assign body D) (if jump.isNone then i+1 else N+1+i) H3 (.loop (rfRec fn us ps assign body D (if jump.isNone then .ready else .done) jump))→
   ∃v w',(Instr.endRound l jump).run P C3.w= .ok v w'∧∃ (b:Bool) (C':Cx) (S':Nat→Prop),Ending.returned v= .returned (.bool b)∧C'.w=w'∧
   Wd C' (.mark (if b then i+1 else N+1+i) :: T')∧rfJ g E Ds t us.toList l N Hs X (rfRec fn us ps assign body D) (if b then i+1 else N+1+i) S' C'.w C'.I∧Rnd S C C' (.mark i :: T) (.mark (if b then i+1 else N+1+i) :: T') S':=by
   intro C3 t3 H3 jump hd3 hat;obtain ⟨_,S3,hcore3,hp3⟩:=hd3.defs;have hcal3:=hcal2.run hd3.ext hd3.wd hcore3 hp3;have hfar3:FarAt C3.w l:=⟨_,hcal3.lat,hcal3.lfar⟩;have hcal4:=hcal3.chg (o':=.loop (rfRec fn us ps assign body D (if jump.isNone then .ready else .done) jump)) trivial;have hrun:=run_endRound (P:=P) jump hcal3.lat;refine ⟨_,_,hrun,jump.isNone,⟨C2.ρ,C2.n,C3.I,(chgC C3 l (.loop (rfRec fn us ps assign body D (if jump.isNone then .ready else .done) jump))).w⟩,calS Ds l C3 H3 S3,rfl,rfl,?_⟩;generalize hC4:chgC C3 l (.loop (rfRec fn us ps assign body D (if jump.isNone then .ready else .done) jump))=C4 at*;have e4:C4.I=C3.I∧C4.ρ=C3.ρ:=by rw [←hC4];exact ⟨rfl,rfl⟩
   have f1:Fr (fun b=>OwnB Cc2 (Hm++new) b∨S0 b∨b=l) Cc2 C':=(z4d hn2 hd.ext).mono fun b hb=>orMap hb id .inl;have f2:=j0A (o:=.loop (rfRec fn us ps assign body D .busy none)) hcal1.limm hfar1;have f3:=z4d hcal2.wd.n hd3.ext;have f4:Fr (fun b=>b=l) C3 C4:=by rw [←hC4];exact j0A hcal3.limm hfar3
   have z1:∀b,OwnB C' H' b∨S1 b→Cc2.w.heap.size≤b∨OwnB Cc2 (Hm++new) b∨S0 b∨b=l:=fun b hb=>by
    rcases hb with x|x
    · exact orMap (z0k hn2 hd.ext x) id fun y=>orMap y id .inl
    exact (g.perm hcore1 x).1.imp id fun y=>orMap ((q0Q hn2).1 y) id fun z=>.inl z.1
   have f12:=f1.trans f2 fun b hb=>.inr (.inr (.inr hb));have f123:=f12.trans f3 fun b hb=>z1 b hb;have hf:=f123.trans f4 fun b hb=>.inr (.inr (.inr hb));have z3:∀b,OwnB C3 H3 b∨S3 b→Cc2.w.heap.size≤b∨OwnB Cc2 (Hm++new) b∨S0 b∨b=l:=fun b hb=>by
    rcases hb with x|x
    · exact (z0k hcal2.wd.n hd3.ext x).elim (fun y=>.inl (An f12.size y)) fun y=>z1 b y
    exact (g.perm hcore3 x).1.elim (fun y=>.inl (An f12.size y)) fun y=>z1 b (orMap ((q0Q hcal2.wd.n).1 y) id fun z=>z.1)
   have hq2:∀b,OwnB C2 (.mark i :: T') b→¬(OwnB Cc2 (Hm++new) b∨S0 b∨b=l):=fun b hb hq=>by
    have ho:=a5 b hb;rcases hq with x|x|x
    · exact (b6 b x).elim (fun y=>hsep b ho (.inl y)) fun y=>y.2 hb
    · exact hsep b ho (.inr (.inl x))
    exact hsep b ho (.inr (.inr (.inl x)))
   have hfc:Fr (fun b=>OwnB Cc2 (Hm++new) b∨S0 b∨b=l) C2 ⟨C2.ρ,C2.n,C3.I,C4.w⟩:=hf.congr (a1.trans b1.symm) (fun b=>by rw [a2,b2];exact (hI' b).symm) rfl (fun b=>by rw [e4.1])
   obtain ⟨w1,w2⟩:=j4v a3 hfc hq2 rfl rfl (by have:=hcal4.wd.imm;rwa [e4.1] at this)
   have hownc:∀ {b:Nat} {j:Nat},OwnB ⟨C2.ρ,C2.n,C3.I,C4.w⟩ (.mark j :: T') b→OwnB C2 (.mark i :: T') b:=fun {b j} hb=>by
    obtain ⟨x,y,z⟩:=z4e (j:=i) hb;exact ⟨x,y,z⟩
   refine ⟨j1N w1,⟨C4,S3,H3,_,rfl,fun b=> ?_,hcal4,fun b=> ?_,hat⟩,a4.trans w2,(hf.congr (A':=C) (B':=⟨C2.ρ,C2.n,C3.I,C4.w⟩) b1.symm (fun b=>by rw [b2];exact (hI' b).symm) rfl (fun b=>by rw [e4.1])).mono fun b hq=> ?_,fun b hb=>a5 b (hownc hb),fun b hb=> ?_⟩
   · rw [e4.1];exact ⟨fun h=>⟨h,hcal4.wd.imm b (by rw [e4.1];exact h)⟩,And.left⟩
   · unfold calS OwnB;rw [e4.2]
   · rcases hq with x|x|x
     · exact orMap (b6 b x) (fun y=>(hS b).2 (.inl y)) fun y=>y.1
     · exact .inl ((hS b).2 (.inr (.inl x)))
     exact .inl ((hS b).2 (.inr (.inr (.inl x))))
   have hz:Cc2.w.heap.size≤b∨(OwnB Cc2 (Hm++new) b∨S0 b∨b=l)∨b∈Ds:=by
    rcases hb with x|x|x|x
    · exact orMap (z3 b (.inl x)) id .inl
    · exact orMap (z3 b (.inr x)) id .inl
    · exact .inr (.inl (.inr (.inr x)))
    exact .inr (.inr x)
   refine ⟨?_,fun ho=> ?_⟩
   · rcases hz with x| (x|x|x) |x
     · rw [b1] at x;exact .inl x
     · exact .inr (orMap (b6 b x) (fun y=>(hS b).2 (.inl y)) fun y=>y.1)
     · exact .inr (.inl ((hS b).2 (.inr (.inl x))))
     · exact .inr (.inl ((hS b).2 (.inr (.inr (.inl x)))))
     exact .inr (.inl ((hS b).2 (.inr (.inr (.inr x)))))
   have ho2:=hownc ho;rcases hz with x|x|x
   · have:=(a3.own b ho2).2;rw [a1,←b1] at this;exact absurd this (AE.2 x)
   · exact hq2 b ho2 x
   exact hsep b (a5 b ho2) (.inr (.inr (.inr x)))
  cases e3 with
  |normal=>obtain ⟨C3,t3,H3,hK,rfl,hd3⟩:=hq3;exact fin none hd3 (.inl ⟨hi,hK,rfl⟩)
  |ret=>obtain ⟨C3,t3,H3,hK,rfl,hd3⟩:=hq3;exact fin (some .ret) hd3 (.inr ⟨i,.ret,.ret,rfl,hi,hK,rfl,rfl⟩)
  |exit id=>simp only [exitT] at hq3;obtain ⟨C3,t3,H3,hK,rfl,hd3⟩:=hq3;exact fin (some (.exit id)) hd3 (.inr ⟨i,.exit id,.exit id,rfl,hi,hK,rfl,rfl⟩)
  |panic ch=>obtain ⟨_,_,_,_,_,h,_⟩:=hq3;exact h.elim
  |goto _=>exact hq3.elim
  |outgrown=>exact hq3.elim
end Go.Sx
set_option maxHeartbeats 4000000
namespace Go.Sx
open Go

variable {P:Program} {AQ:Ex→List SV→List SObj→Prop} {k0:Nat} {k:List It} {t:List SV} {H:List SObj}
variable {g:FG} {Ds:List Nat}

theorem q8I{E:EnD}{D:Nat}{C:Cx}{ds:List Deferred}(h:(topG g (D :: Ds)).fin {E with base:=markD D :: E.base} C H ds):(topG g Ds).fin E C H ds:=by
 obtain ⟨Ds',e,⟨S,hc⟩,hnd,hok⟩:=h;exact ⟨Ds'++ [D],by rw [e];simp,⟨S,g.base (E:={E with base:=markD D :: E.base}) E.base hc⟩,by simpa using hnd,by simpa using hok⟩
theorem q9F{E:EnD}{D:Nat}(e:Exit)(a:Act)(w:World)(h: @conc (topG g (D :: Ds)) {E with base:=markD D :: E.base} AQ e a w): @conc (topG g Ds) E AQ e a w:=by
 cases e with
 |normal=>obtain ⟨C,t,H,h1,h2,h3⟩:=h;exact ⟨C,t,H,h1,h2,⟨h3.wd,h3.ext,q8I h3.defs,h3.tmps⟩⟩
 |ret=>obtain ⟨C,t,H,h1,h2,h3⟩:=h;exact ⟨C,t,H,h1,h2,⟨h3.wd,h3.ext,q8I h3.defs,h3.tmps⟩⟩
 |exit id=>obtain ⟨C,t,H,h1,h2,h3⟩:=h;exact ⟨C,t,H,h1,h2,⟨h3.wd,h3.ext,q8I h3.defs,h3.tmps⟩⟩
 |panic ch=>obtain ⟨C,t,H,s,v,h1,h2,h3,h4,h5,h6,h7,h8⟩:=h;exact ⟨C,t,H,s,v,h1,h2,h3,h4,h5,h6,q8I h7,h8⟩
 |goto l=>exact h
 |outgrown=>exact h

theorem q5I{w:World}{o:Obj}{b:Nat}(h:b<w.heap.size):(w.alloc o).heap[b]?=w.heap[b]?:=by
 show (w.heap.push o)[b]?=_;rw [Array.getElem?_push_lt h,Be h]

def RfStop(g:FG)(P:Program)(AQ:Ex→List SV→List SObj→Prop)(k0:Nat)(k:List It)(t:List SV)(Ds:List Nat):Ex→List SObj→Prop
 |.exit id,H=>∃k',exitTo' id k=some k'∧ @Sound (topG g Ds) P AQ ⟨k0,k',t,H⟩
 |.ret,H=>AQ .ret t H
 |_,_=>False
theorem z8f{inf:Prop}{gop:Operand}{ps:Array Tmp}{assign body:Code}{f:FuncId}{fi ca:List SV}{N:Nat}{vw:Nat→Nat→List SV→List SObj→Prop}{Hs:Nat→List SObj→Prop}{X:Nat→Ex→List SObj→Prop}
 (hgop:evT t gop= .fn f fi ca)(hfi:SV.cleanL fi=true)(hca:SV.cleanL ca=true)(hit:IterI inf P f fi ca N vw)(hinf:inf→∀Hn,¬Hs N Hn)(hr:RfOk P g ps assign body t N vw Hs X)(h0:Hs 0 H)(hns:noStop k=true)
 (hdone:∀D Hn,Hs N Hn→ @Sound (topG g (D :: Ds)) P AQ ⟨k0,k,t,Hn⟩)(hstop:∀D i ex Hn,i<N→X i ex Hn→RfStop g P AQ k0 k t (D :: Ds) ex Hn):
 @Sound (topG g Ds) P AQ ⟨k0,.code (.rangeFunc gop ps assign body) :: k,t,H⟩:=by
 intro E r n C a hfit hd;obtain ⟨hn0,rfl⟩:E.C.n≤k0∧r=none:=hfit;simp only [wpT];obtain ⟨hdf,htab,⟨S0,hcore⟩,hnd,hok⟩:=hd.defs;have hgv:=q2x hd.tmps gop;rw [hgop,SV.den] at hgv;obtain ⟨v1,v2,hgv,d1,d2⟩:=hgv;refine wpIn_rangeFunc fun fn _=> ?_;obtain ⟨w1,hw1⟩:∃w1,w1=(C.w.alloc (.deferred (some []))).alloc (.loop (rfRec fn a.tmps ps assign body C.w.heap.size .ready none)):=⟨_,rfl⟩;have hsz:w1.heap.size=C.w.heap.size+2:=by rw [hw1];simp
 have hold:∀b,b<C.w.heap.size→w1.heap[b]?=C.w.heap[b]?:=fun b hb=>by rw [hw1,q5I (by simp;omega),q5I hb]
 have hD0:w1.heap[C.w.heap.size]?=some (.deferred (some [])):=by rw [hw1,q5I (by simp),World.alloc_heap_new]
 have hl0:w1.heap[C.w.heap.size+1]?=some (.loop (rfRec fn a.tmps ps assign body C.w.heap.size .ready none)):=by
  rw [hw1];have:=World.alloc_heap_new (C.w.alloc (.deferred (some []))) (.loop (rfRec fn a.tmps ps assign body C.w.heap.size .ready none));rwa [World.size_alloc] at this
 have henter:(Instr.enterLoop fn a.tmps ps assign body (Fw none).round).run P C.w= .ok (C.w.heap.size+1,[markD C.w.heap.size]) w1:=by rw [hw1];exact run_enterLoop_outer _ _ _ _ _
 have hvw:World.os w1=C.w.os∧w1.tape=C.w.tape∧w1.output=C.w.output:=by rw [hw1];exact ⟨rfl,rfl,rfl⟩
 clear hw1;obtain ⟨g1,g2⟩:=z4C (w':=w1) hd.wd (by omega) hold hvw.1 hvw.2.1 hvw.2.2
 have hDlt:∀D∈Ds,D<C.w.heap.size:=fun D hD=>(Az.1 (hok D hD).at_).1;have hnew:∀b,C.w.heap.size≤b→¬C.I b∧¬OwnB C H b:=fun b hb=>⟨fun h=>absurd (hd.wd.imm b h) (by omega),fun h=>absurd (hd.wd.own b h).2 (by omega)⟩
 have hEs:E.C.w.heap.size≤C.w.heap.size:=hd.ext.size;have hcal:Cal g E (C.w.heap.size :: Ds) t a.tmps.toList (C.w.heap.size+1) (.loop (rfRec fn a.tmps ps assign body C.w.heap.size .ready none)) {C with w:=w1} H S0:=by
  refine ⟨g1,hd.ext.trans g2,g.next g2 hcore,q0d g2.evo hd.tmps,fun D hD=> ?_,fun hm=> ?_,by omega,(hnew _ (by omega)).1,(hnew _ (by omega)).2,hl0,trivial,⟨htab.tab.next g2,htab.old⟩⟩
  · rcases Bs.1 hD with rfl|hD
    · exact ⟨hEs,(hnew _ (Af _)).1,(hnew _ (Af _)).2,hD0⟩
    exact (hok D hD).next g2
  rcases Bs.1 hm with h|h
  · omega
  have:=hDlt _ h;omega
 have hB:E.C.w.heap.size≤C.w.heap.size+2:=by omega
 have hJ:=j3p (g:=g) (E:=E) (Ds:=C.w.heap.size :: Ds) (t:=t) (tms:=a.tmps.toList) (l:=C.w.heap.size+1) (N:=N) (Hs:=Hs) (X:=X) (rec:=rfRec fn a.tmps ps assign body C.w.heap.size) hB (by omega) (fun D hD=>by
  rcases Bs.1 hD with rfl|hD
  · omega
  have:=hDlt _ hD;omega)
 have yg:=z5f (E:=E) (Ds:=C.w.heap.size :: Ds) (l:=C.w.heap.size+1) (fn:=fn) (us:=a.tmps) (D:=C.w.heap.size) hr hB;have hj0:rfJ g E (C.w.heap.size :: Ds) t a.tmps.toList (C.w.heap.size+1) N Hs X (rfRec fn a.tmps ps assign body C.w.heap.size) 0 (calS (C.w.heap.size :: Ds) (C.w.heap.size+1) {C with w:=w1} H S0) w1 C.I:=
  ⟨{C with w:=w1},S0,H,_,rfl,fun b=>⟨fun h=>⟨h,g1.imm b h⟩,And.left⟩,hcal,fun _=>Iff.rfl,.inl ⟨Al _,h0,rfl⟩⟩
 have hno:∀b,¬OwnB ⟨fun _=>none,1,C.I,w1⟩ [.mark 0] b:=fun b ⟨x,o,_,_,hb⟩=>by cases hb
 have hw2:Wd ⟨fun _=>none,1,C.I,w1⟩ [.mark 0]:=by
  refine ⟨rfl,fun x o ho=> ?_,fun b hb=>absurd hb (hno b),fun x x' o o' b _ _ _ _ h=>(by cases h),g1.imm⟩
  cases x with
  |zero=>simp at ho;subst ho;trivial
  |succ x=>simp at ho
 have hy:=YCore.mk (B:=C.w.heap.size+2) (E:=startE true (calS (C.w.heap.size :: Ds) (C.w.heap.size+1) {C with w:=w1} H S0) ⟨fun _=>none,1,C.I,w1⟩ [.mark 0]) (C:=⟨fun _=>none,1,C.I,w1⟩) (H:=[.mark 0]) (S:=calS (C.w.heap.size :: Ds) (C.w.heap.size+1) {C with w:=w1} H S0)
  Nat.one_pos (Af _) (fun n hn=>by cases (q4x (by simp) hn).1) (by show _≤w1.heap.size;omega) (Af _) (fun b hb=>absurd hb (hno b)) ⟨0,rfl,hj0⟩ (fun b hb=>⟨.inr ((q0Q rfl).2 (.inr ⟨hb,(hJ.fp hj0 hb).2⟩)),hno b⟩)
 have hkeep:Keeps C.I C.I C.w w1:=g2.evo.I;have htab2:TabT ⟨fun _=>none,1,C.I,w1⟩ [.mark 0]:=htab.tab.keep g2.evo.I fun b _ hb _=>⟨by show b<w1.heap.size;omega,hno b,hold b hb⟩
 have hcall:=hit.2 (C.w.heap.size+1) (C.w.heap.size+2) _ hJ yg (fun hi S w I ⟨_,_,Hn,_,_,_,_,_,hat⟩=>by
  rcases hat with ⟨_,h1,_⟩ | ⟨i,_,_,h1,h2,_⟩
  · exact hinf hi Hn h1
  · omega) (startE true (calS (C.w.heap.size :: Ds) (C.w.heap.size+1) {C with w:=w1} H S0) ⟨fun _=>none,1,C.I,w1⟩ [.mark 0]) ⟨fun _=>none,1,C.I,w1⟩ (v1++ [Value.func (.yield (C.w.heap.size+1)) #[] #[]]++v2) hw2 ⟨⟨htab2,htab2.lt⟩,_,hy⟩
  (q0u.2 ⟨_,_,rfl,q0u.2 ⟨_,_,rfl,q1n (C:=C) hkeep hfi d1,q0c.2 ⟨_,[],rfl,by rw [SV.den],q0o.2 rfl⟩⟩,q1n (C:=C) hkeep hca d2⟩)
 refine ⟨C.w.heap.size+1,[markD C.w.heap.size],w1,{target:=.fn (.func f) v2.toArray,args:=v1.toArray++ #[.func (.yield (C.w.heap.size+1)) #[] #[]]},w1,f,(v1++ [Value.func (.yield (C.w.heap.size+1)) #[] #[]]++v2).toArray,w1,henter,?_,fun f' _=>q4q none f',?_,fun h=>(by cases h),q3L (hcall.mono ?_)⟩
 · simp [resolve,hgv,Deferred.ofValue];rfl
 · simp [invoke,q2V hit.1]
 rintro e w' ⟨o,H',C',⟨s,m,rfl,hm,hN⟩,rfl,hw',hx',v,rfl,hv⟩;obtain ⟨_,S',hy'⟩:= @Stp.inv (fgG (yFG hJ)) _ _ _ _ _ hx' ⟨⟨htab2,htab2.lt⟩,_,hy⟩;obtain ⟨m',hm',C3,S3,H3,o3,e3,hI3,hc3,hS3,hat⟩:=hy'.st;have hmm:m'=m:=by rw [hm] at hm';simpa using hm'.symm
 subst hmm;have hden:∀ (pe:Option Code), @Den (topG g (C.w.heap.size :: Ds)) {E with base:=markD C.w.heap.size :: E.base} (chgC C3 (C.w.heap.size+1) (.loop (rfRec fn a.tmps ps assign body C.w.heap.size .exhausted pe))) t H3 {a with defers:=[markD C.w.heap.size]++a.defers}:=fun pe=>by
  have hcal4:=hc3.chg (o':=.loop (rfRec fn a.tmps ps assign body C.w.heap.size .exhausted pe)) trivial;exact ⟨hcal4.wd,hcal4.ext,⟨by rw [hdf];rfl,hcal4.tab,⟨S3,g.base _ hcal4.core⟩,Bk.2 ⟨fun h=>absurd (hDlt _ h) (BR _),hnd⟩,hcal4.marks⟩,hcal4.tmps⟩
 rcases hat with ⟨hmN,hHs,rfl⟩ | ⟨i,ex,c,rfl,hi,hX,hex,rfl⟩
 · have hmN:m'=N:=Nat.le_antisymm hmN hN;subst hmN;refine ⟨none,_,by rw [←e3];exact run_endLoop hc3.lat (by simp),?_⟩
   exact (q2t (fun e a w hh=>q9F e a w hh) k hns).1 _ _ (hdone C.w.heap.size H3 hHs {E with base:=markD C.w.heap.size :: E.base} none n _ _ ⟨hn0,rfl⟩ (hden none))
 have hs:=hstop C.w.heap.size i ex H3 hi hX;refine ⟨some c,_,by rw [←e3];exact run_endLoop hc3.lat (by simp),?_⟩
 cases ex with
 |normal=>exact hs.elim
 |pan s=>exact hs.elim
 |ret=>
  cases hex;exact wpIn_ret (q9F .ret _ _ ⟨_,t,H3,hs,rfl, @Den.fin (topG g (C.w.heap.size :: Ds)) _ _ _ _ _ (hden (some .ret))⟩)
 |exit id=>
  cases hex;obtain ⟨k',hk',hs⟩:=hs;have h9:=hs {E with base:=markD C.w.heap.size :: E.base} none n _ _ ⟨hn0,rfl⟩ (hden (some (.exit id)))
  have h8:= @q3l (topG g (C.w.heap.size :: Ds)) P (Fw none) n _ _ id _ _ k' k hk' h9;exact wpIn_exit ((q2t (G:=topG g Ds) (fun e a w hh=>q9F e a w hh) k hns).2 id _ _ h8)
end Go.Sx
namespace Go.Sx
open Go

variable {P:Program} {AQ:Ex→List SV→List SObj→Prop} {k0:Nat} {k:List IT} {t:List SV} {H:List SObj}
variable {g:FG} {Ds:List Nat}

theorem z5P:(#[]:Array Value).size=0:=rfl
attribute [go_sem] z5P
def RfStopI(g:FG)(P:Program)(AQ:Ex→List SV→List SObj→Prop)(k0:Nat)(k:List IT)(t:List SV)(Ds:List Nat):Ex→List SObj→Prop
 |.exit id,H=>∃k',exitI id k=some k'∧ @SoundI (topG g Ds) P AQ ⟨k0,k',t,H⟩
 |.ret,H=>AQ .ret t H
 |_,_=>False
theorem j0m{inf:Prop}{gop:Operand}{ps:Array Tmp}{asg body:IC}{f:FuncId}{fi ca:List SV}{N:Nat}{vw:Nat→Nat→List SV→List SObj→Prop}(Hs:Nat→List SObj→Prop)(X:Nat→Ex→List SObj→Prop)
 (hgop:evT t gop= .fn f fi ca)(hfi:SV.cleanL fi=true)(hca:SV.cleanL ca=true)(hit:IterI inf P f fi ca N vw)(hinf:inf→∀Hn,¬Hs N Hn)(hlen:∀i n args' new,vw i n args' new→args'.length=ps.size)(h0:Hs 0 H)(hns:noStopI k=true)
 (hround:∀i Hi args' new,i<N→Hs i Hi→vw i Hi.length args' new→∀L1 L2, @SoundI (pinG g L1) P (fun _ _ _=>False)
  ⟨(Hi++new).length,[.ic asg,.stop fun t' H'=> @SoundI (pinG g L2) P (RQ Hs X i) ⟨H'.length,[.ic body],t',H'⟩],putL ps.toList args' t,Hi++new⟩)
 (hdone:∀D Hn,Hs N Hn→ @SoundI (topG g (D :: Ds)) P AQ ⟨k0,k,t,Hn⟩)(hstop:∀D i ex Hn,i<N→X i ex Hn→RfStopI g P AQ k0 k t (D :: Ds) ex Hn):
 @SoundI (topG g Ds) P AQ ⟨k0,.ic (.rf gop ps asg body) :: k,t,H⟩:= @q0e (topG g Ds) P AQ k0 t H _ (fun td' hr=>by
 obtain ⟨c',r,rfl,hc,hr⟩:=hr;obtain ⟨a,b,rfl,ha,hb⟩:=q0J hc;refine z8f (Hs:=Hs) (X:=X) hgop hfi hca hit hinf ⟨hlen,fun i Hi args' new hi hH hv L1 L2=>⟨_,fun t' H' hΦ=> ?_, @q0f (pinG g L1) _ _ _ _ _ _ _ (hround i Hi args' new hi hH hv L1 L2) ⟨a,_,rfl,ha,[],rfl,rfl⟩⟩⟩ h0 (q2v hr hns) (fun D Hn h=> @q0f (topG g (D :: Ds)) _ _ _ _ _ _ _ (hdone D Hn h) hr) fun D i ex Hn hi hX=> ?_
 · exact @q0f (pinG g L2) _ _ _ _ _ _ _ hΦ ⟨b,[],rfl,hb,rfl⟩
 have h:=hstop D i ex Hn hi hX;cases ex with
 |normal=>exact h.elim
 |pan s=>exact h.elim
 |ret=>exact h
 |exit id=>
  obtain ⟨k',hk',hs⟩:=h;obtain ⟨r',hr',hrel⟩:=q2L hr hk'
  exact ⟨r',hr', @q0f (topG g (D :: Ds)) _ _ _ _ _ _ _ hs hrel⟩) rfl
theorem j4r{gop:Operand}{ps:Array Tmp}{asg body:IC}{f:FuncId}{fi ca:List SV}{N:Nat}{vw:Nat→Nat→List SV→List SObj→Prop}(Hs:Nat→List SObj→Prop)(X:Nat→Ex→List SObj→Prop)
 (hgop:evT t gop= .fn f fi ca)(hfi:SV.cleanL fi=true)(hca:SV.cleanL ca=true)(hit:Iter P f fi ca N vw)(hlen:∀i n args' new,vw i n args' new→args'.length=ps.size)(h0:Hs 0 H)(hns:noStopI k=true)
 (hround:∀i Hi args' new,i<N→Hs i Hi→vw i Hi.length args' new→∀L1 L2, @SoundI (pinG g L1) P (fun _ _ _=>False)
  ⟨(Hi++new).length,[.ic asg,.stop fun t' H'=> @SoundI (pinG g L2) P (RQ Hs X i) ⟨H'.length,[.ic body],t',H'⟩],putL ps.toList args' t,Hi++new⟩)
 (hdone:∀D Hn,Hs N Hn→ @SoundI (topG g (D :: Ds)) P AQ ⟨k0,k,t,Hn⟩)(hstop:∀D i ex Hn,i<N→X i ex Hn→RfStopI g P AQ k0 k t (D :: Ds) ex Hn):
 @SoundI (topG g Ds) P AQ ⟨k0,.ic (.rf gop ps asg body) :: k,t,H⟩:=
 j0m (inf:=False) Hs X hgop hfi hca hit.toI (fun h=>h.elim) hlen h0 hns hround hdone hstop
theorem z9O{B N:Nat}{J:Nat→(Nat→Prop)→World→(Nat→Prop)→Prop}{T:List SObj}{c:IC}(hJ:FJ B J)(hno:∀S w I,¬J N S w I): @SoundI (topG (yFG hJ) Ds) P AQ ⟨k0,.ic c :: k,t,.mark N :: T⟩:= @q0e (topG (yFG hJ) Ds) P AQ k0 t _ _ (fun td' _ E r n C a h0 hd=>by
 obtain ⟨_,_,⟨S0,hc⟩,_⟩:=hd.defs;obtain ⟨m,h1,h2⟩:=hc.st;have e:m=N:=by simpa using h1.symm
 exact (hno _ _ _ (e▸h2)).elim) rfl

theorem q4R{l B N:Nat}{J:Nat→(Nat→Prop)→World→(Nat→Prop)→Prop}{vw:Nat→Nat→List SV→List SObj→Prop}{i:Nat}{T:List SObj}(T':List SObj){args:List SV}{d:Option Tmp}
 (hJ:FJ B J)(yg:YG P l B N J vw)(hi:i<N)(hh:∀n,∃args' new,vw i n args' new∧Hand n (.mark i :: T) (.mark i :: T') args args' new)
 (hk:∀b:Bool, @SoundI (topG (yFG hJ) Ds) P AQ ⟨k0,k,putT t d (.raw (.bool b)),.mark (if b then i+1 else N+1+i) :: T'⟩): @YldI (topG (yFG hJ) Ds) P AQ l args d ⟨k0,k,t,.mark i :: T⟩:=z8O hJ yg hi hh hk
def RoundM(T:List SObj)(f:Nat→Nat)(S:Nat→List SV)(n:Nat)(p:Nat→Prop)(i:Nat):List SV→List SObj→Prop:=
 fun t' H'=>i<n∧p (i+1)∧(∃G,H'= .mark (f (i+1)) :: T++G)∧leM t' (S (i+1))
theorem z2h[Ghost]{P:Program}{k:List It}(c:Code)(T:List SObj)(f:Nat→Nat)(S:Nat→List SV)(n:Nat)(p:Nat→Prop)(h₀:p 0)(hs:leM t (S 0))(hk:k0≤T.length+1)(hb:SV.belL (T.length+1) t=true→∀i,SV.belL (T.length+1) (S i)=true)
 (round:∀i,i≤n→p i→Sound P AQ ⟨k0,.code c :: .stop (RoundM T f S n p i) :: k,S i,.mark (f i) :: T⟩):Sound P AQ ⟨k0,.code (.loop c) :: k,t,.mark (f 0) :: T⟩:=fun E r m C a h0 hd=>by
 have hbt:∀i,SV.belL (T.length+1) (S i)=true:=hb (by have:=q1A hd.tmps;rwa [hd.wd.n] at this)
 have hbh:belH (T.length+1) T=true:=q5J fun h o ho=>by have:=q5s (hd.wd.obj (h+1) o (by simpa using ho));rwa [hd.wd.n] at this
 simp only [wpT];refine q1c (fun m a w=>∃i,i≤n∧p i∧n-i=m∧∃C,C.w=w∧Den E C (S i) (.mark (f i) :: T) a) n ⟨0,Al _,h₀,rfl,C,rfl,hd.wd,hd.ext,hd.defs,q2I (q3r hs) hd.tmps⟩ ?_;rintro m' a w ⟨i,hi,hp,rfl,C,rfl,hd⟩;have h1:=round i hi hp E r m C a h0 hd;simp only [wpT] at h1;refine wpIn_mono h1 fun e a w hq=> ?_;cases e with
 |normal=>
  obtain ⟨C',t',H',⟨hlt,hp',⟨G,rfl⟩,hS⟩,rfl,hd'⟩:=hq;refine ⟨n- (i+1),by omega,i+1,hlt,hp',rfl,C'.ren (fun h=>h) (T.length+1),rfl,?_⟩
  exact q8k (H':=.mark (f (i+1)) :: T) h0.1 hd' (q8W hS) (hbt _) (fun h o ho _=>by rw [q3B,Ag (Aa.1 ho).1];exact ho) (by simp only [belH,Ai];exact ⟨rfl,hbh⟩) (fun _ _ _ _ _ _ _ _ e=>e) (fun _ _=>rfl) hk (fun _ hp hn=>by rw [Ag (by simp)] at hn;exact hn)
 |exit id=>simpa only [Exit.then,exitT] using hq
 |_=>exact hq
theorem z6z[Ghost]{c:IC}(T:List SObj)(f:Nat→Nat)(upd:Nat→List (Nat×SV))(n:Nat)(p:Nat→Prop)(h₀:p 0)(hH:H= .mark (f 0) :: T)(hk:k0≤T.length+1)(hu:∀i,((upd i).all fun x=>x.2.bel (T.length+1))=true)(hs:leM t (setMany (maskT c.wr t) (upd 0)))
 (round:∀i,i≤n→p i→SoundI P AQ ⟨k0,.ic c :: .stop (RoundM T f (fun i=>setMany (maskT c.wr t) (upd i)) n p i) :: k,setMany (maskT c.wr t) (upd i),.mark (f i) :: T⟩):
 SoundI P AQ ⟨k0,.ic (.loop c) :: k,t,H⟩:=q0e (fun td' hr=>by
 subst hH;obtain ⟨c',r,rfl,hc,hr⟩:=hr;obtain ⟨x,rfl,hx⟩:=q0J hc
 exact z2h x T f _ n _ h₀ hs hk (fun hb i=>q2M _ (hu i) (q2N _ hb)) (fun i hi hp=>q0f (round i hi hp) ⟨x,_,rfl,hx,r,rfl,hr⟩)) rfl

end Go.Sx
