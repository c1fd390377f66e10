/- A part of the proof: a symbolic executor over abstract values, and its soundness. -/
import Derived.Test.YtmapiojgmbgbgaaGreatDoorV24
import Derived.RangeFuncRecord
set_option linter.all false
namespace Go.Sx
open Go

variable {P:Program} {AQ:Ex→List SV→List SObj→Prop} {k0:Nat} {k:List It} {t:List SV} {H:List SObj}

def far:Obj→Prop
 |.loop _=>True
 |.deferred _=>True
 |_=>False
def FarAt(w:World)(b:Nat):Prop:=∃o,w.heap[b]?=some o∧far o
def Perm(E:En)(b:Nat):Prop:=E.C.w.heap.size≤b∨OwnB E.C E.H b
theorem z4s{C:Cx}{b:Nat}(hw:Wd C H)(h:OwnB C H b):¬FarAt C.w b:=by
 obtain ⟨i,o,ho,hl,hb⟩:=h;have:=hw.obj i o ho;rintro ⟨x,hx,hf⟩;cases o with
 |dead=>simp [SObj.live] at hl
 |mark n=>simp [SObj.live] at hl
 |cells T cs=>
  obtain ⟨b',vs,h1,h2,_⟩:=this;rw [hb] at h1;cases h1;rw [hx] at h2;cases h2;exact hf
 |row t xs=>
  rcases this with ⟨h1,_⟩ | ⟨b',arr,T',fz',h1,h2,h3,_⟩
  · rw [hb] at h1;cases h1
  rw [hb] at h1;cases h1;rw [hx] at h2;cases h2;exact hf
 |map kk ks vs=>
  obtain ⟨b',us,h1,⟨es,cl,h2,_⟩,_⟩:=this;rw [hb] at h1;cases h1;rw [hx] at h2;cases h2;exact hf
theorem z6p{w:World}{b:Nat}(h:FarAt w b):World.bsize w b=none:=by
 obtain ⟨o,ho,hf⟩:=h;unfold World.bsize;rw [ho];cases o<;>first|rfl|exact hf.elim

def unmk:SObj→SObj
 |.mark _=>.dead
 |o=>o
theorem z5j{o:SObj}:(unmk o).live=true ↔ o.live=true:=by cases o<;>simp [unmk,SObj.live]
theorem j1J{o:SObj}(h:o.live=true):unmk o=o:=by cases o<;>first|rfl|simp [SObj.live] at h
open Classical in
noncomputable def rowOf(S:Nat→Prop)(b:Nat):Option Nat:=if S b then some b else none
noncomputable def startE(um:Bool)(S:Nat→Prop)(C:Cx)(H:List SObj):EnD:=
 {C:={C with ρ:=fun h=>if h<C.n then C.ρ h else rowOf S (h-C.n)},H:=(if um then H.map unmk else H)++List.replicate C.w.heap.size (.row .u8 []),base:=[]}
theorem q0U{um:Bool}{S:Nat→Prop}{C:Cx}{b:Nat}(hn:C.n=H.length):OwnB (startE um S C H).C (startE um S C H).H b ↔ OwnB C H b∨(S b∧b<C.w.heap.size):=by
 have hlen:(if um then H.map unmk else H).length=H.length:=by cases um<;>simp
 constructor
 · rintro ⟨h,o,ho,hl,hb⟩;simp only [startE] at ho hb;rcases AC h H.length with hh|hh
   · rw [Ag (by rw [hlen];exact hh)] at ho
     rw [if_pos (by omega)] at hb
     cases um
     · exact .inl ⟨h,o,ho,hl,hb⟩
     simp only [if_true,AN,Ap] at ho;obtain ⟨o',ho',rfl⟩:=ho;exact .inl ⟨h,o',ho',z5j.1 hl,hb⟩
   rw [Ao (by rw [hlen];exact hh),hlen] at ho
   rw [if_neg (by omega)] at hb
   have h1:=(Aa.1 ho).1;rw [BM] at h1;unfold rowOf at hb;split at hb
   · rename_i hS;cases hb;rw [hn];exact .inr ⟨hn▸hS,h1⟩
   cases hb
 rintro (⟨h,o,ho,hl,hb⟩ | ⟨hS,hb⟩)
 · have hh:=(Aa.1 ho).1;refine ⟨h,o,?_,hl,?_⟩
   · simp only [startE];rw [Ag (by rw [hlen];exact hh)]
     cases um
     · exact ho
     simp only [if_true,AN,ho,CT,j1J hl]
   simp only [startE];rw [if_pos (by omega)];exact hb
 refine ⟨H.length+b,.row .u8 [],?_,rfl,?_⟩
 · simp only [startE];rw [Ao (by rw [hlen];omega),hlen,Co,List.getElem?_replicate,if_pos hb]
 simp only [startE];rw [if_neg (by omega),hn,Co]
 unfold rowOf;rw [if_pos hS]
theorem q4y{um:Bool}{S:Nat→Prop}{C:Cx}{m:Nat}(h0:0<H.length)(h:(startE um S C H).H[0]?=some (.mark m)):um=false∧H[0]?=some (.mark m):=by
 simp only [startE] at h;rw [Ag (by cases um<;>simpa using h0)] at h
 cases um
 · exact ⟨rfl,h⟩
 simp only [if_true,AN,Ap] at h;obtain ⟨o,_,ho⟩:=h;cases o<;>simp [unmk] at ho
theorem q5w{um:Bool}{S:Nat→Prop}{C:Cx}(hn:C.n=H.length):Ext (startE um S C H) C H:=
 ⟨⟨Ae _,fun h hh=>(if_pos (show h<C.n from hh)).symm,Keeps.refl _ _,fun _ _ h=>h⟩,Ae _,rfl,rfl,rfl,fun _ _ _=>rfl,fun _ h=>.inl h,fun b hb=>.inr ((q0U hn).2 (.inl hb)),
  fun m h0 hm=>(q4y (show 0<H.length by have:0<C.n:=h0;omega) hm).2⟩
theorem q7Q{um:Bool}{S:Nat→Prop}{C:Cx}(hn:C.n=H.length)(h:TabT C H)(hS:∀b,S b→¬TBlk b):TabT (startE um S C H).C (startE um S C H).H:=
 h.keep (Keeps.refl _ _) fun b hT hb ho=>⟨hb,fun x=>((q0U hn).1 x).elim ho fun y=>hS b y.1 hT,rfl⟩
theorem q4e{um:Bool}{S:Nat→Prop}{C C':Cx}(h:Evo (startE um S C H).C C'):Evo C C':=
 ⟨h.n,fun x hx=>(h.ρ x hx).trans (if_pos hx),h.I,h.sz⟩
theorem z0V{E:En}{um:Bool}{S:Nat→Prop}{C C':Cx}{H':List SObj}(hw:Wd C H)(hx:Ext E C H)(hS:∀b,S b→Perm E b)(hu:um=true→∀n,E.H[0]?≠some (.mark n))(k:Ext (startE um S C H) C' H'):Ext E C' H':=by
 have hown:∀b,OwnB (startE um S C H).C (startE um S C H).H b→Perm E b:=fun b hb=>((q0U hw.n).1 hb).elim (hx.ownNew b) fun h=>hS b h.1;refine ⟨hx.evo.trans (q4e k.evo),An hx.size k.size,k.os.trans hx.os,k.tape.trans hx.tape,k.output.trans hx.output,fun b h1 h2=> ?_,fun b hb=> ?_,fun b hb=> ?_,fun m h0 hm=> ?_⟩
 · exact (k.frame b (Am h1 hx.size) fun ho=>(hown b ho).elim (fun x=>absurd h1 (AG.2 x)) h2).trans (hx.frame b h1 h2)
 · rcases k.immNew b hb with g| ⟨g,u⟩
   · exact orMap (hx.immNew b g) id fun ⟨x,u⟩=>⟨x,u.keep (k.evo.I b g).2⟩
   exact .inr ⟨g.elim (fun x=>.inl (An hx.size x)) (hown b),u⟩
 · exact (k.ownNew b hb).elim (fun x=>.inl (An hx.size x)) (hown b)
 have h1:=hx.keep0 m h0 hm;have hn:=hw.n;have hlt:0<C.n:=Am h0 hx.evo.n;cases um with
 |true=>exact absurd hm (hu rfl m)
 |false=>
  refine k.keep0 m hlt ?_;simp only [startE];rw [Ag (by simpa using (show 0<H.length by omega))]
  exact h1

structure FG where
 um:Bool
 core:EnD→Cx→List SObj→(Nat→Prop)→Prop
 next:∀ {E C C' H H' S},Ext ⟨C,H⟩ C' H'→core E C H S→core E C' H' S
 own:∀ {E C C' H H' S},Wd C H→C'.w=C.w→(∀b,C.I b→C'.I b)→(∀b,C'.I b→C.I b∨OwnB C H b)→(∀b,OwnB C' H' b→OwnB C H b∨(E.C.w.heap.size≤b∧¬S b))→(∀n,0<E.C.n→H[0]?=some (.mark n)→H'[0]?=some (.mark n))→E.C.n≤C'.n→core E C H S→core E C' H' S
 perm:∀ {E C H S b},core E C H S→S b→Perm E.toEn b∧¬C.I b∧¬OwnB C H b∧b<C.w.heap.size
 abide:∀ {E C H S w' I'},core E C H S→C.w.heap.size≤w'.heap.size→(∀b,b<C.w.heap.size→(b<E.C.w.heap.size∨S b∨C.I b∨OwnB C H b)→w'.heap[b]?=C.w.heap[b]?)→(∀b,C.I b→w'.heap[b]?=C.w.heap[b]?)→w'.os=C.w.os→w'.tape=C.w.tape→w'.output=C.w.output→
  (∀b m,World.bsize C.w b=some m→World.bsize w' b=some m)→(∀b,C.I b→I' b)→(∀b,I' b→C.I b∨(E.C.w.heap.size≤b∧¬S b∧¬OwnB C H b∧Unf w' b))→core E {C with w:=w',I:=I'} H S
 lo:∀ {E C H S b},core E C H S→S b→FarAt C.w b→b<E.C.w.heap.size
 start:∀ {E C H S},Wd C H→core E C H S→core (startE um S C H) C H S
 back:∀ {E C H S C' H' S'},Wd C H→core E C H S→Ext (startE um S C H) C' H'→core (startE um S C H) C' H' S'→core E C' H' S'
 unm:∀ {E C H S},um=true→core E C H S→∀n,E.H[0]?≠some (.mark n)
 base:∀ {E C H S} (ds:List Deferred),core E C H S→core {E with base:=ds} C H S
 nt:∀ {E C H S b},core E C H S→S b→¬TBlk b

def noFG:FG where
 um:=false
 core:=fun _ _ _ S=>∀b,¬S b
 next:=fun _ h=>h
 own:=fun _ _ _ _ _ _ _ h=>h
 perm:=fun h hS=>absurd hS (h _)
 abide:=fun h _ _ _ _ _ _ _ _ _=>h
 lo:=fun h hS=>absurd hS (h _)
 start:=fun _ h=>h
 back:=fun _ _ _ h=>h
 unm:=fun h=>by cases h
 base:=fun _ h=>h
 nt:=fun h hS=>absurd hS (h _)

def chgC(C:Cx)(b:Nat)(o:Obj):Cx:={C with w:={C.w with heap:=C.w.heap.setIfInBounds b o}}
theorem q1k{C:Cx}{D b:Nat}{o:Obj}(h:b≠D):(chgC C D o).w.heap[b]?=C.w.heap[b]?:=by
 simp only [chgC];rw [BQ (Ne.symm h)]
theorem j1k{C:Cx}{D:Nat}{o x:Obj}(h:C.w.heap[D]?=some x):(chgC C D o).w.heap[D]?=some o:=by
 simp only [chgC];rw [Array.getElem?_setIfInBounds_self_of_lt (AA.1 h).1]
theorem q3y{C:Cx}{D:Nat}{o:Obj}:(chgC C D o).w.heap.size=C.w.heap.size:=by simp [chgC]
theorem q8X{C:Cx}{D:Nat}{o:Obj}(h:FarAt C.w D)(b m:Nat)(hm:World.bsize C.w b=some m):World.bsize (chgC C D o).w b=some m:=by
 by_cases e:b=D
 · subst e;rw [z6p h] at hm;cases hm
 unfold World.bsize at hm⊢;rw [q1k e];exact hm
theorem FG.chg(g:FG){E:EnD}{C:Cx}{S:Nat→Prop}{D:Nat}{o:Obj}(hc:g.core E C H S)(h1:E.C.w.heap.size≤D)(h2:¬C.I D)(h3:¬OwnB C H D)(h4:FarAt C.w D):g.core E (chgC C D o) H S:=by
 refine g.abide (w':=(chgC C D o).w) (I':=C.I) hc (by rw [q3y];exact Ae _) (fun b _ hb=>q1k fun e=> ?_) (fun b hb=>q1k fun e=>h2 (e▸hb)) rfl rfl rfl (q8X h4) (fun _ h=>h) (fun _ h=>.inl h)
 subst e;rcases hb with hb|hb|hb|hb
 · exact absurd hb (AG.2 h1)
 · exact absurd (g.lo hc hb h4) (AG.2 h1)
 · exact h2 hb
 exact h3 hb

theorem MarkOk.far{E:En}{C:Cx}{D:Nat}(h:MarkOk E C H D):FarAt C.w D:=⟨_,h.at_,trivial⟩
theorem MarkOk.next{E:En}{C C':Cx}{H':List SObj}{D:Nat}(hx:Ext ⟨C,H⟩ C' H')(h:MarkOk E C H D):MarkOk E C' H' D:=by
 have hlt:D<C.w.heap.size:=(AA.1 h.at_).1;refine ⟨h.sz,fun hi=> ?_,fun ho=> ?_,(hx.frame D hlt h.own).trans h.at_⟩
 · exact (hx.immNew D hi).elim h.imm fun ⟨x,_⟩=>x.elim (fun x=>absurd hlt (AG.2 x)) h.own
 exact (hx.ownNew D ho).elim (fun x=>absurd hlt (AG.2 x)) h.own
theorem MarkOk.same{E:En}{C C':Cx}{H':List SObj}{D:Nat}(e:C'.w=C.w)(hi:∀b,C'.I b→C.I b∨OwnB C H b)(ho:∀b,OwnB C' H' b→OwnB C H b)(h:MarkOk E C H D):MarkOk E C' H' D:=
 ⟨h.sz,fun x=>(hi D x).elim h.imm h.own,fun x=>h.own (ho D x),by rw [e];exact h.at_⟩

@[reducible] def fgG(g:FG):Ghost where
 inv0:=fun E C H=>∃S,g.core E C H S
 fin:=fun E C H ds=>ds=E.base∧∃S,g.core E C H S
 toFin0:=fun _ h=>⟨rfl,h⟩
 next0:=fun hx ⟨S,h⟩=>⟨S,g.next hx h⟩
 same0:=fun hw e hk hi ho hm hl ⟨S,h⟩=>⟨S,g.own hw e hk hi (fun b hb=>.inl (ho b hb)) hm hl h⟩
end Go.Sx
namespace Go.Sx
open Go

variable {P:Program} {AQ:Ex→List SV→List SObj→Prop} {k0:Nat} {k:List It} {t:List SV} {H:List SObj}

@[reducible] def topG(g:FG)(Ds:List Nat):Ghost where
 inv0:=fun E C H=>(∃S,g.core E C H S)∧Ds.Nodup∧∀D∈Ds,MarkOk E.toEn C H D
 fin:=fun E C H ds=>∃Ds':List Nat,ds=Ds'.map markD++E.base∧(∃S,g.core E C H S)∧(Ds'++Ds).Nodup∧∀D∈Ds'++Ds,MarkOk E.toEn C H D
 toFin0:=fun _ h=>⟨[],rfl,h.1,by simpa using h.2.1,by simpa using h.2.2⟩
 next0:=fun hx h=>⟨(fgG g).next0 hx h.1,h.2.1,fun D hD=>(h.2.2 D hD).next hx⟩
 same0:=fun hw e hk hi ho hm hl h=>⟨(fgG g).same0 hw e hk hi ho hm hl h.1,h.2.1,fun D hD=>(h.2.2 D hD).same e hi ho⟩
 rd:=fun r=>r=none
 rd0:=rfl

def Pins(L:List (Nat×Obj))(C:Cx)(H:List SObj)(S:Nat→Prop):Prop:=∀x∈L,¬C.I x.1∧¬OwnB C H x.1∧¬S x.1∧C.w.heap[x.1]?=some x.2∧far x.2
theorem Pins.next{L:List (Nat×Obj)}{S:Nat→Prop}{C C':Cx}{H':List SObj}(hx:Ext ⟨C,H⟩ C' H')(h:Pins L C H S):Pins L C' H' S:=fun x hxL=>by
 obtain ⟨h1,h2,hS,h3,h4⟩:=h x hxL;have hlt:x.1<C.w.heap.size:=(AA.1 h3).1;refine ⟨fun hi=> ?_,fun ho=> ?_,hS,(hx.frame _ hlt h2).trans h3,h4⟩
 · exact (hx.immNew _ hi).elim h1 fun ⟨y,_⟩=>y.elim (fun y=>absurd hlt (AG.2 y)) h2
 exact (hx.ownNew _ ho).elim (fun y=>absurd hlt (AG.2 y)) h2
theorem Pins.same{L:List (Nat×Obj)}{S:Nat→Prop}{C C':Cx}{H':List SObj}(e:C'.w=C.w)(hi:∀b,C'.I b→C.I b∨OwnB C H b)(ho:∀b,OwnB C' H' b→OwnB C H b)(h:Pins L C H S):Pins L C' H' S:=fun x hxL=>by
 obtain ⟨h1,h2,hS,h3,h4⟩:=h x hxL;exact ⟨fun y=>(hi _ y).elim h1 h2,fun y=>h2 (ho _ y),hS,by rw [e];exact h3,h4⟩
@[reducible] def pinG(g:FG)(L:List (Nat×Obj)):Ghost where
 inv0:=fun E C H=>∃S,g.core E C H S∧Pins L C H S
 fin:=fun E C H ds=>ds=E.base∧∃S,g.core E C H S∧Pins L C H S
 toFin0:=fun _ h=>⟨rfl,h⟩
 next0:=fun hx ⟨S,h⟩=>⟨S,g.next hx h.1,h.2.next hx⟩
 same0:=fun hw e hk hi ho hm hl ⟨S,h⟩=>⟨S,g.own hw e hk hi (fun b hb=>.inl (ho b hb)) hm hl h.1,h.2.same e hi ho⟩

theorem z1X{E:En}{C:Cx}{D D':Nat}(h:MarkOk E C H D')(hne:D'≠D):MarkOk E (dropD C D) H D':=⟨h.sz,h.imm,h.own,(q1E hne).trans h.at_⟩
theorem q8d(g:FG){E:EnD}{S:Nat→Prop}:∀ (Ds:List Nat) {C:Cx},g.core E C H S→Ds.Nodup→(∀D∈Ds,MarkOk E.toEn C H D)→g.core E (Ds.foldl dropD C) H S
 | [],_,h,_,_=>h
 |D :: Ds,C,h,hnd,hok=>by
  have hD:=hok D (by simp)
  exact q8d g Ds (C:=dropD C D) (g.chg (o:=.deferred none) h hD.sz hD.imm hD.own hD.far) (Bw.1 hnd).2 fun D' hD'=>z1X (hok D' (by simp [hD'])) fun e=>(Bw.1 hnd).1 (e▸hD')

theorem z5o(g:FG){f:FuncId}{fn:Func}{c:Code}{args:List SV}{K:Out→List SObj→Prop}(hf:P.funcs[f]?=some fn)(hb:fn.body=some c)
 (h: @Sound (topG g []) P (retQ P fn K) ⟨H.length,[.code c],args++List.replicate (fn.ntmps-args.length) .any,H⟩): @VCallG (fgG g) P f args H K:=by
 rintro E C vs hw ⟨ht,S,hc⟩ hv
 refine (@q4u (topG g []) P H f fn c args K (startE g.um S C H) C vs hf hb rfl (by show C.n≤_;rw [hw.n];exact Ae _) hw (q5w hw.n) ⟨⟨ht.tab,ht.tab.lt⟩,⟨S,g.start hw hc⟩,CW,fun _ h=>by simp at h⟩
  (fun C' H'=>∃S',g.core (startE g.um S C H) C' H' S') ?_ hv h).mono ?_
 · rintro C' H' ds hw' hx' ⟨Ds',e,⟨S',hc'⟩,hnd,hok⟩;rw [Ai] at hnd hok;exact ⟨Ds',by rw [e];exact Ai _,hnd,hok,S',q8d g Ds' hc' hnd hok⟩
 rintro e w' ⟨o,H',C',k1,k2,k3,k4,⟨S',k5⟩,k6⟩;exact ⟨o,H',C',k1,k2,k3, @Stp.mk (fgG g) E C H C' H' (q4e k4.evo) (fun k=>z0V hw k (fun b hb=>(g.perm hc hb).1) (fun hu=>g.unm hu hc) k4) (fun hx0=>⟨⟨(q7Q hw.n hx0.1.tab fun b hb=>g.nt hc hb).next k4,hx0.1.old⟩,S',g.back hw hc k4 k5⟩),k6⟩
theorem q6H(g:FG){f:FuncId}{fi:FI}{args:List SV}{K:Out→List SObj→Prop}(h:finfo P f=some fi)
 (hs: @SoundI (topG g []) P (retF P fi.results K) ⟨H.length,[.ic fi.code],args++List.replicate (fi.ntmps-args.length) .any,H⟩): @VCG (fgG g) P f args H K:=by
 obtain ⟨fn,c,hf,hb,hc,h1,h2,hen⟩:=z6z h;have hq:retQ P fn K=retF P fi.results K:=by rw [←h2];funext e t H;cases e<;>rfl
 refine ⟨hen, @z5o P H g f fn c args K hf hb ?_⟩;rw [hq,h1];exact @q0e (topG g []) P (retF P fi.results K) _ _ _ _ _ hs ⟨c,[],rfl,hc,rfl⟩
theorem z2n{f:FuncId}{args:List SV}{K:Out→List SObj→Prop}(h: @VCG (fgG noFG) P f args H K):VC P f args H K:=
 ⟨h.1,fun C vs hw ht hv=>(h.2 ⟨⟨C,H⟩,[]⟩ C vs hw ⟨ht.here,fun _=>False,fun _ h=>h⟩ hv).mono fun _ _ ⟨o,H',C',k1,k2,k3,k4,k5⟩=>⟨o,H',C',k1,k2,k3, @Stp.ext (fgG noFG) _ _ _ _ _ k4 (Ext.refl _ _),k5⟩⟩

structure FJ (B:Nat) (J:Nat→(Nat→Prop)→World→(Nat→Prop)→Prop):Prop where
 abide:∀ {m S w I w' I'},J m S w I→w.heap.size≤w'.heap.size→(∀b,b<w.heap.size→(b<B∨S b∨I b)→w'.heap[b]?=w.heap[b]?)→(∀b,I b→w'.heap[b]?=w.heap[b]?)→w'.os=w.os→w'.tape=w.tape→w'.output=w.output→
  (∀b m,World.bsize w b=some m→World.bsize w' b=some m)→(∀b,I b→I' b)→(∀b,I' b→I b∨(B≤b∧¬S b∧Unf w' b))→J m S w' I'
 fp:∀ {m S w I b},J m S w I→S b→¬I b∧b<w.heap.size
 lo:∀ {m S w I b},J m S w I→S b→FarAt w b→b<B
 nt:∀ {m S w I b},J m S w I→S b→¬TBlk b
structure YCore (B:Nat) (J:Nat→(Nat→Prop)→World→(Nat→Prop)→Prop) (E:EnD) (C:Cx) (H:List SObj) (S:Nat→Prop):Prop where
 pos:0<E.C.n
 n:E.C.n≤C.n
 unm:∀n,E.H[0]?≠some (.mark n)
 lo:B≤E.C.w.heap.size
 sz:E.C.w.heap.size≤C.w.heap.size
 own:∀b,OwnB C H b→Perm E.toEn b∧B≤b
 st:∃m,H[0]?=some (.mark m)∧J m S C.w C.I
 fp:∀b,S b→Perm E.toEn b∧¬OwnB C H b
def yFG{B:Nat}{J:Nat→(Nat→Prop)→World→(Nat→Prop)→Prop}(hJ:FJ B J):FG where
 um:=true
 core:=YCore B J
 next:=fun {E C C' H H' S} hx h=>by
  obtain ⟨m,h1,h2⟩:=h.st;have hS:∀b,S b→¬C.I b∧b<C.w.heap.size:=fun b hb=>hJ.fp h2 hb;refine ⟨h.pos,An h.n hx.evo.n,h.unm,h.lo,An h.sz hx.size,fun b hb=> ?_,⟨m,hx.keep0 m (Am h.pos h.n) h1,?_⟩,fun b hb=>⟨(h.fp b hb).1,fun ho=> ?_⟩⟩
  · rcases hx.ownNew b hb with x|x
    · exact ⟨.inl (An h.sz x),An h.lo (An h.sz x)⟩
    exact h.own b x
  · refine hJ.abide h2 hx.size (fun b hb h3=> ?_) (fun b hb=>(hx.evo.I b hb).2) hx.os hx.tape hx.output hx.evo.sz (fun b hb=>(hx.evo.I b hb).1) fun b hb=> ?_
    · rcases h3 with h3|h3|h3
      · exact hx.frame b hb fun ho=>absurd h3 (AG.2 (h.own b ho).2)
      · exact hx.frame b hb fun ho=>(h.fp b h3).2 ho
      exact (hx.evo.I b h3).2
    rcases hx.immNew b hb with x| ⟨x|x,u⟩
    · exact .inl x
    · exact .inr ⟨An h.lo (An h.sz x),fun hs=>absurd (hS b hs).2 (AG.2 x),u⟩
    exact .inr ⟨(h.own b x).2,fun hs=>(h.fp b hs).2 x,u⟩
  rcases hx.ownNew b ho with x|x
  · exact absurd (hS b hb).2 (AG.2 x)
  exact (h.fp b hb).2 x
 own:=fun {E C C' H H' S} hw e hk hi ho hm hl h=>by
  obtain ⟨m,h1,h2⟩:=h.st;refine ⟨h.pos,hl,h.unm,h.lo,by rw [e];exact h.sz,fun b hb=> ?_,⟨m,hm m h.pos h1,?_⟩,fun b hb=>⟨(h.fp b hb).1,fun h3=> ?_⟩⟩
  · rcases ho b hb with x| ⟨x,_⟩
    · exact h.own b x
    exact ⟨.inl x,An h.lo x⟩
  · rw [e];refine hJ.abide h2 (Ae _) (fun _ _ _=>rfl) (fun _ _=>rfl) rfl rfl rfl (fun _ _ h=>h) hk fun b hb=>orMap (hi b hb) id fun x=>⟨(h.own b x).2,fun hs=>(h.fp b hs).2 x,q4v hw x⟩
  exact (ho b h3).elim (h.fp b hb).2 fun x=>x.2 hb
 perm:=fun {E C H S b} h hS=>by
  obtain ⟨m,h1,h2⟩:=h.st;exact ⟨(h.fp b hS).1,(hJ.fp h2 hS).1,(h.fp b hS).2,(hJ.fp h2 hS).2⟩
 abide:=fun {E C H S w' I'} h hs hf hkI h1 h2 h3 hz hI hI'=>by
  obtain ⟨m,g1,g2⟩:=h.st;refine ⟨h.pos,h.n,h.unm,h.lo,An h.sz hs,h.own,⟨m,g1,?_⟩,h.fp⟩;refine hJ.abide g2 hs (fun b hb h4=>hf b hb ?_) hkI h1 h2 h3 hz hI fun b hb=>orMap (hI' b hb) id fun ⟨x,y,_,u⟩=>⟨An h.lo x,y,u⟩;rcases h4 with h4|h4|h4
  · exact .inl (Am h4 h.lo)
  · exact .inr (.inl h4)
  exact .inr (.inr (.inl h4))
 lo:=fun {E C H S b} h hS hf=>by
  obtain ⟨m,g1,g2⟩:=h.st;exact Am (hJ.lo g2 hS hf) h.lo
 start:=fun {E C H S} hw h=>by
  obtain ⟨m,g1,g2⟩:=h.st;have hlt:0<H.length:=(Aa.1 g1).1;refine ⟨by show 0<C.n;rw [hw.n];exact hlt,Ae _,fun n hn=>(by cases (q4y hlt hn).1),An h.lo h.sz,Ae _,fun b hb=>⟨.inr ((q0U hw.n).2 (.inl hb)),(h.own b hb).2⟩,⟨m,g1,g2⟩,fun b hb=>⟨.inr ((q0U hw.n).2 (.inr ⟨hb,(hJ.fp g2 hb).2⟩)),(h.fp b hb).2⟩⟩
 back:=fun {E C H S C' H' S'} hw h hx k=>by
  have hp:∀b,Perm (startE true S C H).toEn b→Perm E.toEn b:=fun b hb=>by
   rcases hb with hb|hb
   · exact .inl (An h.sz hb)
   exact ((q0U hw.n).1 hb).elim (fun x=>(h.own b x).1) fun x=>(h.fp b x.1).1
  exact ⟨h.pos,An h.n (q4e hx.evo).n,h.unm,h.lo,An h.sz hx.size,fun b hb=>⟨hp b (k.own b hb).1,(k.own b hb).2⟩,k.st,fun b hb=>⟨hp b (k.fp b hb).1,(k.fp b hb).2⟩⟩
 unm:=fun _ h=>h.unm
 nt:=fun {E C H S b} h hS=>by
  obtain ⟨m,h1,h2⟩:=h.st;exact hJ.nt h2 hS
 base:=fun _ h=>⟨h.pos,h.n,h.unm,h.lo,h.sz,h.own,h.st,h.fp⟩
end Go.Sx
namespace Go.Sx
open Go

variable {P:Program} {AQ:Ex→List SV→List SObj→Prop} {k0:Nat} {k:List It} {t:List SV} {H:List SObj}

structure Fr (Q:Nat→Prop) (C C':Cx):Prop where
 size:C.w.heap.size≤C'.w.heap.size
 os:C'.w.os=C.w.os
 tape:C'.w.tape=C.w.tape
 output:C'.w.output=C.w.output
 keep:Keeps C.I C'.I C.w C'.w
 sz:∀b m,World.bsize C.w b=some m→World.bsize C'.w b=some m
 frame:∀b,b<C.w.heap.size→¬Q b→C'.w.heap[b]?=C.w.heap[b]?
 imm:∀b,C'.I b→C.I b∨((C.w.heap.size≤b∨Q b)∧Unf C'.w b)
theorem Fr.trans{Q Q':Nat→Prop}{C C' C'':Cx}(h:Fr Q C C')(k:Fr Q' C' C'')(hq:∀b,Q' b→C.w.heap.size≤b∨Q b):Fr Q C C'' where
 size:=An h.size k.size
 os:=k.os.trans h.os
 tape:=k.tape.trans h.tape
 output:=k.output.trans h.output
 keep:=h.keep.trans k.keep
 sz:=fun b m hm=>k.sz b m (h.sz b m hm)
 frame:=fun b hb hn=>(k.frame b (Am hb h.size) fun h'=>(hq b h').elim (fun x=>absurd hb (AG.2 x)) hn).trans (h.frame b hb hn)
 imm:=fun b hb=>by
  rcases k.imm b hb with x| ⟨x,u⟩
  · exact orMap (h.imm b x) id fun ⟨y,u⟩=>⟨y,u.keep (k.keep b x).2⟩
  exact .inr ⟨x.elim (fun y=>.inl (An h.size y)) (hq b),u⟩
theorem Fr.mono{Q Q':Nat→Prop}{C C':Cx}(h:Fr Q C C')(hq:∀b,Q b→Q' b):Fr Q' C C' where
 size:=h.size
 os:=h.os
 tape:=h.tape
 output:=h.output
 keep:=h.keep
 sz:=h.sz
 frame:=fun b hb hn=>h.frame b hb fun x=>hn (hq b x)
 imm:=fun b hb=>orMap (h.imm b hb) id fun ⟨y,u⟩=>⟨orMap y id (hq b),u⟩
theorem z3T{um:Bool}{S:Nat→Prop}{C C':Cx}{H':List SObj}(hn:C.n=H.length)(k:Ext (startE um S C H) C' H'):Fr (fun b=>OwnB C H b∨S b) C C' where
 size:=k.size
 os:=k.os
 tape:=k.tape
 output:=k.output
 keep:=k.evo.I
 sz:=k.evo.sz
 frame:=fun b hb hq=>k.frame b hb fun ho=>hq (orMap ((q0U hn).1 ho) id fun x=>x.1)
 imm:=fun b hb=>orMap (k.immNew b hb) id fun ⟨y,u⟩=>⟨orMap y id fun ho=>orMap ((q0U hn).1 ho) id fun x=>x.1,u⟩
theorem z0b{um:Bool}{S:Nat→Prop}{C C':Cx}{H':List SObj}(hn:C.n=H.length)(k:Ext (startE um S C H) C' H'){b:Nat}(hb:OwnB C' H' b):C.w.heap.size≤b∨OwnB C H b∨S b:=
 orMap (k.ownNew b hb) id fun ho=>orMap ((q0U hn).1 ho) id fun x=>x.1
theorem q6Y{C:Cx}{D:Nat}{o:Obj}(hi:¬C.I D)(hf:FarAt C.w D):Evo C (chgC C D o):=⟨Ae _,fun _ _=>rfl,fun b hb=>⟨hb,q1k fun e=>hi (e▸hb)⟩,q8X hf⟩
theorem j0r{C:Cx}{D:Nat}{o:Obj}(hi:¬C.I D)(hf:FarAt C.w D):Fr (fun b=>b=D) C (chgC C D o) where
 size:=by rw [q3y];exact Ae _
 os:=rfl
 tape:=rfl
 output:=rfl
 keep:=(q6Y hi hf).I
 sz:=q8X hf
 frame:=fun b _ hn=>q1k hn
 imm:=fun b hb=>.inl hb
theorem j3a{C:Cx}{D:Nat}{o:Obj}(hw:Wd C H)(hi:¬C.I D)(ho:¬OwnB C H D)(hf:FarAt C.w D):Wd (chgC C D o) H:=
 (j0E (w':=(chgC C D o).w) hw q3y (fun b hb=>q1k fun e=>hb.elim (e▸hi) (e▸ho)) (q8X hf)).1
theorem j2z{E:En}{C:Cx}{D:Nat}{o:Obj}(hx:Ext E C H)(hi:¬C.I D)(hf:FarAt C.w D)(hs:E.C.w.heap.size≤D):Ext E (chgC C D o) H:=
 ⟨hx.evo.trans (q6Y hi hf),by rw [q3y];exact hx.size,hx.os,hx.tape,hx.output,fun b hb ho=>(q1k (by omega)).trans (hx.frame b hb ho),fun b hb=>orMap (hx.immNew b hb) id fun ⟨x,u⟩=>⟨x,u.keep (q1k fun e=>hi (e▸hb))⟩,hx.ownNew,hx.keep0⟩
structure Rnd (S:Nat→Prop) (C C':Cx) (H H':List SObj) (S':Nat→Prop):Prop where
 evo:Evo C C'
 fr:Fr (fun b=>S b∨OwnB C H b) C C'
 own:∀b,OwnB C' H' b→OwnB C H b
 fp:∀b,S' b→(C.w.heap.size≤b∨S b∨OwnB C H b)∧¬OwnB C' H' b

theorem z8M{B:Nat}{J:Nat→(Nat→Prop)→World→(Nat→Prop)→Prop}{E:EnD}{C C':Cx}{H':List SObj}{S S':Nat→Prop}(h:YCore B J E C H S)(r:Rnd S C C' H H' S')(hm:∃m,H'[0]?=some (.mark m)∧J m S' C'.w C'.I):
 (Ext E.toEn C H→Ext E.toEn C' H')∧YCore B J E C' H' S':=by
 have hp:∀b,S b∨OwnB C H b→Perm E.toEn b:=fun b hb=>hb.elim (fun x=>(h.fp b x).1) fun x=>(h.own b x).1
 refine ⟨fun hx=>⟨hx.evo.trans r.evo,An hx.size r.fr.size,r.fr.os.trans hx.os,r.fr.tape.trans hx.tape,r.fr.output.trans hx.output,fun b h1 h2=> ?_,fun b hb=> ?_,fun b hb=>hx.ownNew b (r.own b hb),fun m _ hm=>absurd hm (h.unm m)⟩,
  ⟨h.pos,An h.n r.evo.n,h.unm,h.lo,An h.sz r.fr.size,fun b hb=>h.own b (r.own b hb),hm,fun b hb=>⟨?_,(r.fp b hb).2⟩⟩⟩
 · exact (r.fr.frame b (Am h1 hx.size) fun hq=>(hp b hq).elim (fun x=>absurd h1 (AG.2 x)) h2).trans (hx.frame b h1 h2)
 · rcases r.fr.imm b hb with x| ⟨x,u⟩
   · exact orMap (hx.immNew b x) id fun ⟨y,u⟩=>⟨y,u.keep (r.fr.keep b x).2⟩
   exact .inr ⟨x.elim (fun y=>.inl (An hx.size y)) (hp b),u⟩
 rcases (r.fp b hb).1 with x|x
 · exact .inl (An h.sz x)
 exact hp b x

theorem j1G{S S':Nat→Prop}{C C':Cx}{H':List SObj}(r:Rnd S C C' H H' S')(h:TabT C H)(hS:∀b,S b→¬TBlk b):TabT C' H':=
 h.keep r.evo.I fun b hT hb ho=>⟨Am hb r.fr.size,fun x=>ho (r.own b x),r.fr.frame b hb fun y=>y.elim (fun z=>hS b z hT) ho⟩
def Hand(n:Nat)(H H':List SObj)(args args':List SV)(new:List SObj):Prop:=
 ∀ (C Cc:Cx) (Hc:List SObj) (vs:List Value),Wd C H→SV.denL C args vs→Wd Cc Hc→Hc.length=n→Cc.w=C.w→(∀b,Cc.I b ↔ C.I b)→(∀b,OwnB C H b→¬OwnB Cc Hc b)→
  ∃C2 Cc2:Cx,C2.w=C.w∧C2.I=C.I∧Wd C2 H'∧Evo C C2∧(∀b,OwnB C2 H' b→OwnB C H b)∧Cc2.w=C.w∧Cc2.I=Cc.I∧Wd Cc2 (Hc++new)∧Evo Cc Cc2∧SV.denL Cc2 args' vs∧(∀b,OwnB Cc2 (Hc++new) b→OwnB Cc Hc b∨(OwnB C H b∧¬OwnB C2 H' b))
theorem q2V{n:Nat}{args:List SV}(hc:SV.cleanL args=true):Hand n H H args args []:=fun C Cc Hc vs hw hv hwc _ e hi _=>
 ⟨C,Cc,rfl,rfl,hw,Evo.refl _,fun _ h=>h,e,rfl,by rw [Ai];exact hwc,Evo.refl _,q1n (C:=C) (C':=Cc) (fun b hb=>⟨(hi b).2 hb,by rw [e]⟩) hc hv,fun b hb=>.inl (by rwa [Ai] at hb)⟩

def YG(P:Program)(l B N:Nat)(J:Nat→(Nat→Prop)→World→(Nat→Prop)→Prop)(vw:Nat→Nat→List SV→List SObj→Prop):Prop:=
 ∀ (i:Nat) (T T':List SObj) (args:List SV) (C:Cx) (S:Nat→Prop) (vs:List Value),i<N→Wd C (.mark i :: T)→J i S C.w C.I→(∀b,OwnB C (.mark i :: T) b→B≤b∧¬S b)→SV.denL C args vs→
  (∀n,∃args' new,vw i n args' new∧Hand n (.mark i :: T) (.mark i :: T') args args' new)→
  ∃f tmps assign body,(Instr.yield l vs.toArray).run P C.w= .ok (.round l f tmps assign body) C.w∧
   ∀ (r:Option Nat) (n:Nat),RoundIn (Fw r) n P l f tmps assign body C.w fun e w'=>∃ (b:Bool) (C':Cx) (S':Nat→Prop),e= .returned (.bool b)∧C'.w=w'∧
    Wd C' (.mark (if b then i+1 else N+1+i) :: T')∧J (if b then i+1 else N+1+i) S' C'.w C'.I∧Rnd S C C' (.mark i :: T) (.mark (if b then i+1 else N+1+i) :: T') S'

theorem vyld{G:Ghost}{l B N:Nat}{J:Nat→(Nat→Prop)→World→(Nat→Prop)→Prop}{vw:Nat→Nat→List SV→List SObj→Prop}{i:Nat}{T T':List SObj}{args:List SV}{K:Out→List SObj→Prop}
 (hG:∀ {E C},G.inv E C (.mark i :: T)→∃S,YCore B J E C (.mark i :: T) S∧∀ (C':Cx) (H':List SObj) (S':Nat→Prop),YCore B J E C' H' S'→Rnd S C C' (.mark i :: T) H' S'→G.inv E C' H')
 (hJ:FJ B J)(yg:YG P l B N J vw)(hi:i<N)(hh:∀n,∃args' new,vw i n args' new∧Hand n (.mark i :: T) (.mark i :: T') args args' new)
 (hk:∀b:Bool,K (.ret (.raw (.bool b))) (.mark (if b then i+1 else N+1+i) :: T')): @VYld G P l args (.mark i :: T) K:=by
 intro E C vs hw hg hv;obtain ⟨S,hc,hback⟩:=hG hg;obtain ⟨m,h1,h2⟩:=hc.st;have e:m=i:=by simpa using h1.symm
 subst e;obtain ⟨f,tmps,assign,body,hrun,hround⟩:=yg m T T' args C S vs hi hw h2 (fun b hb=>⟨(hc.own b hb).2,fun hs=>(hc.fp b hs).2 hb⟩) hv hh;refine ⟨f,tmps,assign,body,hrun,fun r n=>(hround r n).mono ?_⟩;rintro e w' ⟨b,C',S',rfl,rfl,k1,k2,k3⟩;obtain ⟨x1,x2⟩:=z8M hc k3 ⟨_,rfl,k2⟩;exact ⟨.raw (.bool b),_,C',.bool b,rfl,hk b,rfl,k1, @Stp.mk G E C _ C' _ k3.evo x1 fun _=>hback C' _ S' x2 k3,by rw [SV.den]⟩
theorem z8J{Ds:List Nat}{l B N:Nat}{J:Nat→(Nat→Prop)→World→(Nat→Prop)→Prop}{vw:Nat→Nat→List SV→List SObj→Prop}{i:Nat}{T T':List SObj}{args:List SV}{K:Out→List SObj→Prop}
 (hJ:FJ B J)(yg:YG P l B N J vw)(hi:i<N)(hh:∀n,∃args' new,vw i n args' new∧Hand n (.mark i :: T) (.mark i :: T') args args' new)
 (hk:∀b:Bool,K (.ret (.raw (.bool b))) (.mark (if b then i+1 else N+1+i) :: T')): @VYld (topG (yFG hJ) Ds) P l args (.mark i :: T) K:=by
 refine @vyld P (topG (yFG hJ) Ds) l B N J vw i T T' args K (fun {E C} hg=> ?_) hJ yg hi hh hk;obtain ⟨ht,⟨S,hc⟩,hnd,hok⟩:=hg;refine ⟨S,hc,fun C' H' S' hc' hr=>⟨⟨j1G hr ht.tab fun b hb=>(yFG hJ).nt hc hb,ht.old⟩,⟨S',hc'⟩,hnd,fun D hD=> ?_⟩⟩;have m:=hok D hD;have hlt:D<C.w.heap.size:=(AA.1 m.at_).1;have hS:¬S D:=fun hs=>absurd ((yFG hJ).lo hc hs m.far) (AG.2 m.sz);refine ⟨m.sz,fun hi=> ?_,fun ho=>m.own (hr.own _ ho),(hr.fr.frame _ hlt fun hq=>hq.elim hS m.own).trans m.at_⟩;exact (hr.fr.imm _ hi).elim m.imm fun ⟨y,_⟩=>y.elim (fun y=>absurd hlt (AG.2 y)) fun y=>y.elim hS m.own

def Iter(P:Program)(f:FuncId)(fi ca:List SV)(N:Nat)(vw:Nat→Nat→List SV→List SObj→Prop):Prop:=
 enters P f=true∧∀ (l B:Nat) (J:Nat→(Nat→Prop)→World→(Nat→Prop)→Prop) (hJ:FJ B J),YG P l B N J vw→
  @VCallG (fgG (yFG hJ)) P f (fi++ [.raw (.func (.yield l) #[] #[])]++ca) [.mark 0] fun o H'=>∃s m,o= .ret s∧H'[0]?=some (.mark m)∧N≤m
def IterI(inf:Prop)(P:Program)(f:FuncId)(fi ca:List SV)(N:Nat)(vw:Nat→Nat→List SV→List SObj→Prop):Prop:=
 enters P f=true∧∀ (l B:Nat) (J:Nat→(Nat→Prop)→World→(Nat→Prop)→Prop) (hJ:FJ B J),YG P l B N J vw→(inf→∀S w I,¬J N S w I)→
  @VCallG (fgG (yFG hJ)) P f (fi++ [.raw (.func (.yield l) #[] #[])]++ca) [.mark 0] fun o H'=>∃s m,o= .ret s∧H'[0]?=some (.mark m)∧N≤m
theorem Iter.toI{inf:Prop}{f:FuncId}{fi ca:List SV}{N:Nat}{vw:Nat→Nat→List SV→List SObj→Prop}(h:Iter P f fi ca N vw):IterI inf P f fi ca N vw:=⟨h.1,fun l B J hJ yg _=>h.2 l B J hJ yg⟩
end Go.Sx
namespace Go.Sx
open Go

variable {P:Program} {AQ:Ex→List SV→List SObj→Prop} {k0:Nat} {k:List It} {t:List SV} {H:List SObj}

def putL:List Tmp→List SV→List SV→List SV
 |p :: ps,s :: l,t=>putL ps l (t.set p s)
 |_,_,t=>t
theorem z0h{C:Cx}:∀ (ps:List Tmp) (l:List SV) (vs:List Value) (t:List SV) (us:Array Value),SV.denL C l vs→SV.denL C t us.toList→SV.denL C (putL ps l t) ((ps.zip vs).foldl (fun tm x=>tm.setIfInBounds x.1 x.2) us).toList
 | [],_,_,_,_,_,ht=>by simpa [putL] using ht
 |p :: ps,[],vs,t,us,hl,ht=>by rw [q0p] at hl;subst hl;simpa [putL] using ht
 |p :: ps,s :: l,vs,t,us,hl,ht=>by
  obtain ⟨v,vs',rfl,h1,h2⟩:=q0c.1 hl;simp only [putL,List.zip_cons_cons,Bl];exact z0h ps l vs' _ _ h2 (by rw [B4];exact q2p ht h1)
theorem z9Z{C:Cx}{ps:Array Tmp}{l:List SV}{vs:List Value}{t:List SV}{us:Array Value}(hl:SV.denL C l vs)(ht:SV.denL C t us.toList):SV.denL C (putL ps.toList l t) ((ps.zip vs.toArray).foldl (fun tm (p,v)=>tm.setIfInBounds p v) us).toList:=by
 have:=z0h ps.toList l vs t us hl ht;rw [←CK,Array.toList_zip];exact this

theorem Fr.congr{Q:Nat→Prop}{A A' B B':Cx}(h:Fr Q A B)(e1:A'.w=A.w)(i1:∀b,A'.I b ↔ A.I b)(e2:B'.w=B.w)(i2:∀b,B'.I b ↔ B.I b):Fr Q A' B' where
 size:=by rw [e1,e2];exact h.size
 os:=by rw [e1,e2];exact h.os
 tape:=by rw [e1,e2];exact h.tape
 output:=by rw [e1,e2];exact h.output
 keep:=fun b hb=>⟨(i2 b).2 (h.keep b ((i1 b).1 hb)).1,by rw [e1,e2];exact (h.keep b ((i1 b).1 hb)).2⟩
 sz:=by rw [e1,e2];exact h.sz
 frame:=by rw [e1,e2];exact h.frame
 imm:=fun b hb=>by rw [e1,e2];exact (h.imm b ((i2 b).1 hb)).imp (i1 b).2 id
theorem j4q{Q:Nat→Prop}{C C':Cx}(hw:Wd C H)(hf:Fr Q C C')(hq:∀b,OwnB C H b→¬Q b)(hr:C'.ρ=C.ρ)(hn:C'.n=C.n)(hi:∀b,C'.I b→b<C'.w.heap.size):Wd C' H∧Evo C C':=by
 have he:Evo C C':=⟨by rw [hn];exact Ae _,fun h _=>by rw [hr],hf.keep,hf.sz⟩
 have hown:∀b,OwnB C' H b→OwnB C H b:=fun b ⟨h,o,ho,hl,hb⟩=>⟨h,o,ho,hl,by rw [←hr];exact hb⟩
 refine ⟨⟨by rw [hn];exact hw.n,fun h o ho=> ?_,fun b hb=> ?_,fun h h' o o' b h1 h2 h3 h4 h5 h6=>hw.inj h h' o o' b h1 h2 h3 h4 (by rw [←hr];exact h5) (by rw [←hr];exact h6),hi⟩,he⟩
 · by_cases hl:o.live=true
   · exact q0C he.I h (by rw [hr]) (fun b hb=>hf.frame b (hw.own b ⟨h,o,ho,hl,hb⟩).2 (hq b ⟨h,o,ho,hl,hb⟩)) (q0f he) (hw.obj h o ho)
   cases o<;>first|trivial|simp [SObj.live] at hl
 have h1:=hown b hb;have h2:=hw.own b h1;exact ⟨fun hi=>(hf.imm b hi).elim h2.1 fun ⟨x,_⟩=>x.elim (fun y=>absurd h2.2 (AG.2 y)) (hq b h1),Am h2.2 hf.size⟩
theorem z3U{C:Cx}{i j:Nat}{T:List SObj}{b:Nat}(h:OwnB C (.mark i :: T) b):OwnB C (.mark j :: T) b:=by
 obtain ⟨x,o,ho,hl,hb⟩:=h;cases x with
 |zero=>simp at ho;subst ho;simp [SObj.live] at hl
 |succ x=>exact ⟨x+1,o,by simpa using ho,hl,hb⟩
theorem j1A{C:Cx}{i j:Nat}{T:List SObj}(h:Wd C (.mark i :: T)):Wd C (.mark j :: T):=by
 have hget:∀ {x:Nat} {o:SObj},(SObj.mark j :: T)[x]?=some o→o.live=true→(SObj.mark i :: T)[x]?=some o:=fun {x o} ho hl=>by
  cases x with
  |zero=>simp at ho;subst ho;simp [SObj.live] at hl
  |succ x=>simpa using ho
 refine ⟨h.n,fun x o ho=> ?_,fun b hb=>h.own b (z3U hb),fun x x' o o' b h1 h2 h3 h4=>h.inj x x' o o' b (hget h1 h3) (hget h2 h4) h3 h4,h.imm⟩;by_cases hl:o.live=true
 · exact h.obj x o (hget ho hl)
 cases o<;>first|trivial|simp [SObj.live] at hl

structure Cal (g:FG) (E:EnD) (Ds:List Nat) (t:List SV) (tms:List Value) (l:Nat) (o:Obj) (C:Cx) (H:List SObj) (S:Nat→Prop):Prop where
 wd:Wd C H
 ext:Ext E.toEn C H
 core:g.core E C H S
 tmps:SV.denL C t tms
 marks:∀D∈Ds,MarkOk E.toEn C H D
 lne:l ∉ Ds
 lsz:E.C.w.heap.size≤l
 limm:¬C.I l
 lown:¬OwnB C H l
 lat:C.w.heap[l]?=some o
 lfar:far o
 tab:TabE E.toEn C H
def calS(Ds:List Nat)(l:Nat)(C:Cx)(H:List SObj)(S:Nat→Prop)(b:Nat):Prop:=OwnB C H b∨S b∨b=l∨b∈Ds
variable {g:FG} {E:EnD} {Ds:List Nat} {tms:List Value} {l:Nat} {o:Obj} {C:Cx} {S:Nat→Prop}

theorem Cal.fp(h:Cal g E Ds t tms l o C H S){b:Nat}(hb:calS Ds l C H S b):¬C.I b∧b<C.w.heap.size:=by
 rcases hb with x|x|x|x
 · exact h.wd.own b x
 · exact ⟨(g.perm h.core x).2.1,(g.perm h.core x).2.2.2⟩
 · subst x;exact ⟨h.limm,(AA.1 h.lat).1⟩
 exact ⟨(h.marks b x).imm,(AA.1 (h.marks b x).at_).1⟩
theorem Cal.abide{B:Nat}{w':World}{I':Nat→Prop}(h:Cal g E Ds t tms l o C H S)(hB:E.C.w.heap.size≤B)(hs:C.w.heap.size≤w'.heap.size)(hf:∀b,b<C.w.heap.size→(b<B∨calS Ds l C H S b∨C.I b)→w'.heap[b]?=C.w.heap[b]?)
 (h1:w'.os=C.w.os)(h2:w'.tape=C.w.tape)(h3:w'.output=C.w.output)(hz:∀b m,World.bsize C.w b=some m→World.bsize w' b=some m)(hI:∀b,C.I b→I' b)(hI':∀b,I' b→C.I b∨(B≤b∧¬calS Ds l C H S b∧Unf w' b))(hlt:∀b,I' b→b<w'.heap.size):
 Cal g E Ds t tms l o {C with w:=w',I:=I'} H S:=by
 have hk:Keeps C.I I' C.w w':=fun b hb=>⟨hI b hb,hf b (h.wd.imm b hb) (.inr (.inr hb))⟩;have he:Evo C {C with w:=w',I:=I'}:=⟨Ae _,fun _ _=>rfl,hk,hz⟩
 refine ⟨⟨h.wd.n,fun x o ho=> ?_,fun b hb=> ?_,h.wd.inj,hlt⟩,⟨h.ext.evo.trans he,An h.ext.size hs,h1.trans h.ext.os,h2.trans h.ext.tape,h3.trans h.ext.output,fun b hb hn=> ?_,fun b hb=> ?_,h.ext.ownNew,h.ext.keep0⟩,?_,q0f he h.tmps,fun D hD=> ?_,h.lne,h.lsz,?_,h.lown,?_,h.lfar,⟨h.tab.tab.keep hk fun b hT hb ho=>⟨Am hb hs,ho,hf b hb (.inl (Am (h.tab.old b hT) hB))⟩,h.tab.old⟩⟩
 · by_cases hl:o.live=true
   · exact q0C (C':={C with w:=w',I:=I'}) hk x rfl (fun b hb=>hf b (h.wd.own b ⟨x,o,ho,hl,hb⟩).2 (.inr (.inl (.inl ⟨x,o,ho,hl,hb⟩)))) (q0f he) (h.wd.obj x o ho)
   cases o<;>first|trivial|simp [SObj.live] at hl
 · have:=h.wd.own b hb;exact ⟨fun hi=>(hI' b hi).elim this.1 fun y=>y.2.1 (.inl hb),Am this.2 hs⟩
 · exact (hf b (Am hb h.ext.size) (.inl (Am hb hB))).trans (h.ext.frame b hb hn)
 · rcases hI' b hb with x|x
   · exact orMap (h.ext.immNew b x) id fun ⟨y,u⟩=>⟨y,u.keep (hk b x).2⟩
   exact .inr ⟨.inl (An hB x.1),x.2.2⟩
 · refine g.abide h.core hs (fun b hb hc=>hf b hb ?_) (fun b hb=>(hk b hb).2) h1 h2 h3 hz hI fun b hb=>orMap (hI' b hb) id fun x=>⟨An hB x.1,fun y=>x.2.1 (.inr (.inl y)),fun y=>x.2.1 (.inl y),x.2.2⟩;rcases hc with x|x|x|x
   · exact .inl (Am x hB)
   · exact .inr (.inl (.inr (.inl x)))
   · exact .inr (.inr x)
   exact .inr (.inl (.inl x))
 · have m:=h.marks D hD;exact ⟨m.sz,fun hi=>(hI' D hi).elim m.imm fun y=>y.2.1 (.inr (.inr (.inr hD))),m.own,(hf D (AA.1 m.at_).1 (.inr (.inl (.inr (.inr (.inr hD)))))).trans m.at_⟩
 · exact fun hi=>(hI' l hi).elim h.limm fun y=>y.2.1 (.inr (.inr (.inl rfl)))
 exact (hf l (AA.1 h.lat).1 (.inr (.inl (.inr (.inr (.inl rfl)))))).trans h.lat
theorem Cal.chg(h:Cal g E Ds t tms l o C H S){o':Obj}(ho:far o'):Cal g E Ds t tms l o' (chgC C l o') H S:=by
 have hf:FarAt C.w l:=⟨o,h.lat,h.lfar⟩;refine ⟨j3a h.wd h.limm h.lown hf,j2z h.ext h.limm hf h.lsz,g.chg h.core h.lsz h.limm h.lown hf,q0f (q6Y h.limm hf) h.tmps,fun D hD=> ?_,h.lne,h.lsz,h.limm,h.lown,j1k h.lat,ho,⟨h.tab.tab.keep (q6Y h.limm hf).I fun b hT hb ho=>⟨by rw [q3y];exact hb,ho,q1k fun e=>absurd (h.tab.old b hT) (AG.2 (e▸h.lsz))⟩,h.tab.old⟩⟩
 have m:=h.marks D hD;exact ⟨m.sz,m.imm,m.own,(q1k (D:=l) fun e=>h.lne (e▸hD)).trans m.at_⟩

def exC:Ex→Option Code
 |.ret=>some .ret
 |.exit id=>some (.exit id)
 |_=>none
def rfAt(N:Nat)(Hs:Nat→List SObj→Prop)(X:Nat→Ex→List SObj→Prop)(rec:LoopState→Option Code→Loop)(m:Nat)(H:List SObj)(o:Obj):Prop:=
 (m≤N∧Hs m H∧o= .loop (rec .ready none))∨∃i ex c,m=N+1+i∧i<N∧X i ex H∧exC ex=some c∧o= .loop (rec .done (some c))
def rfJ(g:FG)(E:EnD)(Ds:List Nat)(t:List SV)(tms:List Value)(l N:Nat)(Hs:Nat→List SObj→Prop)(X:Nat→Ex→List SObj→Prop)(rec:LoopState→Option Code→Loop)(m:Nat)(S:Nat→Prop)(w:World)(I:Nat→Prop):Prop:=
 ∃ (C:Cx) (S0:Nat→Prop) (H:List SObj) (o:Obj),C.w=w∧(∀b,C.I b ↔ I b∧b<w.heap.size)∧Cal g E Ds t tms l o C H S0∧(∀b,S b ↔ calS Ds l C H S0 b)∧rfAt N Hs X rec m H o
theorem j3j{N B:Nat}{Hs:Nat→List SObj→Prop}{X:Nat→Ex→List SObj→Prop}{rec:LoopState→Option Code→Loop}(hB:E.C.w.heap.size≤B)(hl:l<B)(hD:∀D∈Ds,D<B):FJ B (rfJ g E Ds t tms l N Hs X rec) where
 abide:=by
  rintro m S w I w' I' ⟨C,S0,H,o,rfl,hI,hc,hS,hat⟩ hs hf hkI h1 h2 h3 hz hi hi';refine ⟨{C with w:=w',I:=fun b=>I' b∧b<w'.heap.size},S0,H,o,rfl,fun b=>Iff.rfl,hc.abide hB hs (fun b hb hx=>hf b hb ?_) h1 h2 h3 hz (fun b hb=>⟨hi b ((hI b).1 hb).1,Am ((hI b).1 hb).2 hs⟩) (fun b hb=> ?_) (fun b hb=>hb.2),hS,hat⟩
  · rcases hx with x|x|x
    · exact .inl x
    · exact .inr (.inl ((hS b).2 x))
    exact .inr (.inr ((hI b).1 x).1)
  rcases hi' b hb.1 with x|x
  · rcases AC b C.w.heap.size with y|y
    · exact .inl ((hI b).2 ⟨x,y⟩)
    have hn:=hkI b x;rw [Bu y] at hn;exact absurd hb.2 (AG.2 (Array.getElem?_eq_none_iff.1 hn))
  exact .inr ⟨x.1,fun y=>x.2.1 ((hS b).2 y),x.2.2⟩
 fp:=by
  rintro m S w I b ⟨C,S0,H,o,rfl,hI,hc,hS,hat⟩ hb;have:=hc.fp ((hS b).1 hb);exact ⟨fun hi=>this.1 ((hI b).2 ⟨hi,this.2⟩),this.2⟩
 nt:=by
  rintro m S w I b ⟨C,S0,H,o,rfl,hI,hc,hS,hat⟩ hb hT;rcases (hS b).1 hb with x|x|x|x
  · exact hc.tab.tab.own b hT x
  · exact g.nt hc.core x hT
  · exact absurd (hc.tab.old b hT) (AG.2 (x▸hc.lsz))
  exact absurd (hc.tab.old b hT) (AG.2 (hc.marks b x).sz)
 lo:=by
  rintro m S w I b ⟨C,S0,H,o,rfl,hI,hc,hS,hat⟩ hb hf;rcases (hS b).1 hb with x|x|x|x
  · exact absurd hf (z4s hc.wd x)
  · exact Am (g.lo hc.core x hf) hB
  · subst x;exact hl
  exact hD b x
end Go.Sx
namespace Go.Sx
open Go

variable {P:Program} {AQ:Ex→List SV→List SObj→Prop} {k0:Nat} {k:List It} {t:List SV} {H:List SObj}
variable {g:FG} {E:EnD} {Ds:List Nat} {tms:List Value} {l:Nat} {o:Obj} {C C':Cx} {H':List SObj} {S S':Nat→Prop}

def calL(Ds:List Nat)(l:Nat)(o:Obj):List (Nat×Obj):=(l,o) :: Ds.map fun D=>(D,.deferred (some []))
theorem Cal.pins(h:Cal g E Ds t tms l o C H S):Pins (calL Ds l o) C H S:=by
 intro x hx;rcases Bz.1 hx with rfl|hx
 · exact ⟨h.limm,h.lown,fun hs=>absurd (g.lo h.core hs ⟨o,h.lat,h.lfar⟩) (AG.2 h.lsz),h.lat,h.lfar⟩
 obtain ⟨D,hD,rfl⟩:=BU.1 hx;have m:=h.marks D hD;exact ⟨m.imm,m.own,fun hs=>absurd (g.lo h.core hs m.far) (AG.2 m.sz),m.at_,trivial⟩
theorem Cal.run(h:Cal g E Ds t tms l o C H S)(hx:Ext (startE g.um S C H).toEn C' H')(hw:Wd C' H')(hcore:g.core (startE g.um S C H) C' H' S')(hp:Pins (calL Ds l o) C' H' S'):Cal g E Ds t tms l o C' H' S':=by
 obtain ⟨q1,q2,q3,q4,q5⟩:=hp (l,o) (by simp [calL])
 refine ⟨hw,z0V h.wd h.ext (fun b hb=>(g.perm h.core hb).1) (fun hu=>g.unm hu h.core) hx,g.back h.wd h.core hx hcore,q0f (q4e hx.evo) h.tmps,fun D hD=> ?_,h.lne,h.lsz,q1,q2,q4,q5,⟨(q7Q h.wd.n h.tab.tab fun b hb=>g.nt h.core hb).next hx,h.tab.old⟩⟩
 obtain ⟨p1,p2,p3,p4,p5⟩:=hp (D,.deferred (some [])) (by simp [calL];exact .inr hD)
 exact ⟨(h.marks D hD).sz,p1,p2,p4⟩

def RQ(Hs:Nat→List SObj→Prop)(X:Nat→Ex→List SObj→Prop)(i:Nat):Ex→List SV→List SObj→Prop
 |.normal,_,H'=>Hs (i+1) H'
 |.ret,_,H'=>X i .ret H'
 |.exit id,_,H'=>X i (.exit id) H'
 |.pan _,_,_=>False
structure RfOk (P:Program) (g:FG) (ps:Array Tmp) (assign body:Code) (t:List SV) (N:Nat) (vw:Nat→Nat→List SV→List SObj→Prop) (Hs:Nat→List SObj→Prop) (X:Nat→Ex→List SObj→Prop):Prop where
 len:∀i n args' new,vw i n args' new→args'.length=ps.size
 round:∀i Hi args' new,i<N→Hs i Hi→vw i Hi.length args' new→∀L1 L2,∃Φ,(∀t' H',Φ t' H'→ @Sound (pinG g L2) P (RQ Hs X i) ⟨H'.length,[.code body],t',H'⟩)∧
  @Sound (pinG g L1) P (fun _ _ _=>False) ⟨(Hi++new).length,[.code assign,.stop Φ],putL ps.toList args' t,Hi++new⟩
@[reducible] def rfRec(fn:FuncId)(us:Array Value)(ps:Array Tmp)(assign body:Code)(D:Nat)(st:LoopState)(pe:Option Code):Loop:={state:=st,pending:=pe,fn,tmps:=us,params:=ps,assign,body,defers:=D}

theorem z4W{ps:Array Tmp}{assign body:Code}{N B:Nat}{vw:Nat→Nat→List SV→List SObj→Prop}{Hs:Nat→List SObj→Prop}{X:Nat→Ex→List SObj→Prop}{fn:FuncId}{us:Array Value}{D:Nat}
 (hr:RfOk P g ps assign body t N vw Hs X)(hB:E.C.w.heap.size≤B):YG P l B N (rfJ g E Ds t us.toList l N Hs X (rfRec fn us ps assign body D)) vw:=by
 rintro i T T' args C S vs hi hw ⟨Cc,S0,Hm,o,e1,hI,hc,hS,hst⟩ hown hv hh;obtain ⟨hHs,rfl⟩:Hs i Hm∧o= .loop (rfRec fn us ps assign body D .ready none):=by
  rcases hst with ⟨_,h1,h2⟩ | ⟨i',_,_,h,_⟩
  · exact ⟨h1,h2⟩
  omega
 have hI':∀b,Cc.I b ↔ C.I b:=fun b=>(hI b).trans ⟨fun h=>h.1,fun h=>⟨h,hw.imm b h⟩⟩;obtain ⟨args',new,hvw,hhand⟩:=hh Hm.length;have hsep:∀b,OwnB C (.mark i :: T) b→¬calS Ds l Cc Hm S0 b:=fun b hb h=>(hown b hb).2 ((hS b).2 h);obtain ⟨C2,Cc2,a1,a2,a3,a4,a5,b1,b2,b3,b4,b5,b6⟩:=hhand C Cc Hm vs hw hv hc.wd rfl e1 hI' (fun b hb hcb=>hsep b hb (.inl hcb));have e2:Cc2.w=Cc.w:=b1.trans e1.symm;have hown2:∀b,OwnB Cc2 (Hm++new) b→OwnB Cc Hm b∨(E.C.w.heap.size≤b∧OwnB C (.mark i :: T) b∧¬OwnB C2 (.mark i :: T') b):=fun b hb=>orMap (b6 b hb) id fun h=>⟨An hB (hown b h.1).1,h⟩;have hc2:Cal g E Ds t us.toList l (.loop (rfRec fn us ps assign body D .ready none)) Cc2 (Hm++new) S0:=by
  refine ⟨b3,⟨hc.ext.evo.trans b4,by rw [e2];exact hc.ext.size,by rw [e2];exact hc.ext.os,by rw [e2];exact hc.ext.tape,by rw [e2];exact hc.ext.output,fun b h1 h2=>by rw [e2];exact hc.ext.frame b h1 h2,fun b hb=> ?_,fun b hb=> ?_,fun m h0 hm=>q3r (hc.ext.keep0 m h0 hm)⟩,?_,q0f b4 hc.tmps,fun D' hD=> ?_,hc.lne,hc.lsz,by rw [b2];exact hc.limm,fun ho=> ?_,by rw [e2];exact hc.lat,hc.lfar,⟨hc.tab.tab.keep b4.I fun b hT hb ho=>⟨by rw [e2];exact hb,fun x=>(hown2 b x).elim ho fun y=>absurd (hc.tab.old b hT) (AG.2 y.1),by rw [e2]⟩,hc.tab.old⟩⟩
  · rw [b2] at hb;rw [e2];exact hc.ext.immNew b hb
  · exact (hown2 b hb).elim (hc.ext.ownNew b) fun x=>.inl x.1
  · exact g.own hc.wd e2 (fun b h=>by rw [b2];exact h) (fun b h=>by rw [b2] at h;exact .inl h) (fun b hb=>orMap (hown2 b hb) id fun x=>⟨x.1,fun h=>hsep b x.2.1 (.inr (.inl h))⟩) (fun m _ hm=>q3r hm) (An hc.ext.evo.n b4.n) hc.core
  · have m:=hc.marks D' hD;exact ⟨m.sz,by rw [b2];exact m.imm,fun ho=>(hown2 D' ho).elim m.own fun x=>hsep D' x.2.1 (.inr (.inr (.inr hD))),by rw [e2];exact m.at_⟩
  exact (hown2 l ho).elim hc.lown fun x=>hsep l x.2.1 (.inr (.inr (.inl rfl)))
 have hn2:Cc2.n=(Hm++new).length:=b3.n;have hlc:C.w.heap[l]?=some (.loop (rfRec fn us ps assign body D .ready none)):=by rw [←e1];exact hc.lat
 have hvl:vs.toArray.size=ps.size:=by have:=q0B b5;rw [AO,this,hr.len _ _ _ _ hvw]
 refine ⟨fn,_,assign,body,run_yield (P:=P) hlc hvl,fun r n=>roundIn_of_wpIn (q4r r fn) ?_⟩;have hd1: @Den (pinG g (calL Ds l (.loop (rfRec fn us ps assign body D .ready none)))) (startE g.um S0 Cc2 (Hm++new)) Cc2 (putL ps.toList args' t) (Hm++new) {tmps:=(ps.zip vs.toArray).foldl (fun tm (p,v)=>tm.setIfInBounds p v) us,defers:=[]}:=
  ⟨b3,q5w hn2,⟨rfl,⟨hc2.tab.tab,hc2.tab.tab.lt⟩,S0,g.start b3 hc2.core,hc2.pins⟩,z9Z b5 hc2.tmps⟩
 obtain ⟨Φ,hbody,hasg⟩:=hr.round i Hm args' new hi hHs hvw (calL Ds l (.loop (rfRec fn us ps assign body D .ready none))) (calL Ds l (.loop (rfRec fn us ps assign body D .busy none)));have h1:=hasg (startE g.um S0 Cc2 (Hm++new)) (some l) n Cc2 _ ⟨CS hn2,trivial⟩ hd1;simp only [wpT] at h1;refine wpIn_mono (by rw [←b1];exact h1) fun e a w hq=> ?_
 clear h1;cases e with
 |exit id=>simp only [exitT] at hq;obtain ⟨_,_,_,h,_⟩:=hq;exact h.elim
 |ret=>obtain ⟨_,_,_,h,_⟩:=hq;exact h.elim
 |panic ch=>obtain ⟨_,_,_,_,_,h,_⟩:=hq;exact h.elim
 |goto _=>exact hq.elim
 |outgrown=>exact hq.elim
 |normal=>
  obtain ⟨C',t',H',hΦ,rfl,hd⟩:=hq;obtain ⟨hdf,_,S1,hcore1,hp1⟩:=hd.defs;have hcal1:=hc2.run hd.ext hd.wd hcore1 hp1;have hfar1:FarAt C'.w l:=⟨_,hcal1.lat,hcal1.lfar⟩;have hcal2:=hcal1.chg (o':=.loop (rfRec fn us ps assign body D .busy none)) trivial;refine ⟨_,run_beginRound hcal1.lat rfl,?_⟩;have hd2: @Den (pinG g (calL Ds l (.loop (rfRec fn us ps assign body D .busy none)))) (startE g.um S1 (chgC C' l (.loop (rfRec fn us ps assign body D .busy none))) H') (chgC C' l (.loop (rfRec fn us ps assign body D .busy none))) t' H' a:=
   ⟨hcal2.wd,q5w hcal2.wd.n,⟨hdf,⟨hcal2.tab.tab,hcal2.tab.tab.lt⟩,S1,g.start hcal2.wd hcal2.core,hcal2.pins⟩,q0f (q6Y hcal1.limm hfar1) hd.tmps⟩
  have h2:=hbody _ _ hΦ _ (some l) n _ a ⟨CS hcal2.wd.n,trivial⟩ hd2;simp only [wpT] at h2;refine wpIn_mono h2 fun e3 a9 w3 hq3=> ?_;clear h2;have fin:∀ {C3:Cx} {t3:List SV} {H3:List SObj} (jump:Option Code), @DenF (pinG g (calL Ds l (.loop (rfRec fn us ps assign body D .busy none)))) (startE g.um S1 (chgC C' l (.loop (rfRec fn us ps assign body D .busy none))) H') C3 t3 H3 a9→
   rfAt N Hs X (rfRec fn us ps assign body D) (if jump.isNone then i+1 else N+1+i) H3 (.loop (rfRec fn us ps assign body D (if jump.isNone then .ready else .done) jump))→
   ∃v w',(Instr.endRound l jump).run P C3.w= .ok v w'∧∃ (b:Bool) (C':Cx) (S':Nat→Prop),Ending.returned v= .returned (.bool b)∧C'.w=w'∧
   Wd C' (.mark (if b then i+1 else N+1+i) :: T')∧rfJ g E Ds t us.toList l N Hs X (rfRec fn us ps assign body D) (if b then i+1 else N+1+i) S' C'.w C'.I∧Rnd S C C' (.mark i :: T) (.mark (if b then i+1 else N+1+i) :: T') S':=by
   intro C3 t3 H3 jump hd3 hat;obtain ⟨_,S3,hcore3,hp3⟩:=hd3.defs;have hcal3:=hcal2.run hd3.ext hd3.wd hcore3 hp3;have hfar3:FarAt C3.w l:=⟨_,hcal3.lat,hcal3.lfar⟩;have hcal4:=hcal3.chg (o':=.loop (rfRec fn us ps assign body D (if jump.isNone then .ready else .done) jump)) trivial;have hrun:=run_endRound (P:=P) jump hcal3.lat;refine ⟨_,_,hrun,jump.isNone,⟨C2.ρ,C2.n,C3.I,(chgC C3 l (.loop (rfRec fn us ps assign body D (if jump.isNone then .ready else .done) jump))).w⟩,calS Ds l C3 H3 S3,rfl,rfl,?_⟩;generalize hC4:chgC C3 l (.loop (rfRec fn us ps assign body D (if jump.isNone then .ready else .done) jump))=C4 at*;have e4:C4.I=C3.I∧C4.ρ=C3.ρ:=by rw [←hC4];exact ⟨rfl,rfl⟩
   have f1:Fr (fun b=>OwnB Cc2 (Hm++new) b∨S0 b∨b=l) Cc2 C':=(z3T hn2 hd.ext).mono fun b hb=>orMap hb id .inl;have f2:=j0r (o:=.loop (rfRec fn us ps assign body D .busy none)) hcal1.limm hfar1;have f3:=z3T hcal2.wd.n hd3.ext;have f4:Fr (fun b=>b=l) C3 C4:=by rw [←hC4];exact j0r hcal3.limm hfar3
   have z1:∀b,OwnB C' H' b∨S1 b→Cc2.w.heap.size≤b∨OwnB Cc2 (Hm++new) b∨S0 b∨b=l:=fun b hb=>by
    rcases hb with x|x
    · exact orMap (z0b hn2 hd.ext x) id fun y=>orMap y id .inl
    exact (g.perm hcore1 x).1.imp id fun y=>orMap ((q0U hn2).1 y) id fun z=>.inl z.1
   have f12:=f1.trans f2 fun b hb=>.inr (.inr (.inr hb));have f123:=f12.trans f3 fun b hb=>z1 b hb;have hf:=f123.trans f4 fun b hb=>.inr (.inr (.inr hb));have z3:∀b,OwnB C3 H3 b∨S3 b→Cc2.w.heap.size≤b∨OwnB Cc2 (Hm++new) b∨S0 b∨b=l:=fun b hb=>by
    rcases hb with x|x
    · exact (z0b hcal2.wd.n hd3.ext x).elim (fun y=>.inl (An f12.size y)) fun y=>z1 b y
    exact (g.perm hcore3 x).1.elim (fun y=>.inl (An f12.size y)) fun y=>z1 b (orMap ((q0U hcal2.wd.n).1 y) id fun z=>z.1)
   have hq2:∀b,OwnB C2 (.mark i :: T') b→¬(OwnB Cc2 (Hm++new) b∨S0 b∨b=l):=fun b hb hq=>by
    have ho:=a5 b hb;rcases hq with x|x|x
    · exact (b6 b x).elim (fun y=>hsep b ho (.inl y)) fun y=>y.2 hb
    · exact hsep b ho (.inr (.inl x))
    exact hsep b ho (.inr (.inr (.inl x)))
   have hfc:Fr (fun b=>OwnB Cc2 (Hm++new) b∨S0 b∨b=l) C2 ⟨C2.ρ,C2.n,C3.I,C4.w⟩:=hf.congr (a1.trans b1.symm) (fun b=>by rw [a2,b2];exact (hI' b).symm) rfl (fun b=>by rw [e4.1])
   obtain ⟨w1,w2⟩:=j4q a3 hfc hq2 rfl rfl (by have:=hcal4.wd.imm;rwa [e4.1] at this)
   have hownc:∀ {b:Nat} {j:Nat},OwnB ⟨C2.ρ,C2.n,C3.I,C4.w⟩ (.mark j :: T') b→OwnB C2 (.mark i :: T') b:=fun {b j} hb=>by
    obtain ⟨x,y,z⟩:=z3U (j:=i) hb;exact ⟨x,y,z⟩
   refine ⟨j1A w1,⟨C4,S3,H3,_,rfl,fun b=> ?_,hcal4,fun b=> ?_,hat⟩,a4.trans w2,(hf.congr (A':=C) (B':=⟨C2.ρ,C2.n,C3.I,C4.w⟩) b1.symm (fun b=>by rw [b2];exact (hI' b).symm) rfl (fun b=>by rw [e4.1])).mono fun b hq=> ?_,fun b hb=>a5 b (hownc hb),fun b hb=> ?_⟩
   · rw [e4.1];exact ⟨fun h=>⟨h,hcal4.wd.imm b (by rw [e4.1];exact h)⟩,And.left⟩
   · unfold calS OwnB;rw [e4.2]
   · rcases hq with x|x|x
     · exact orMap (b6 b x) (fun y=>(hS b).2 (.inl y)) fun y=>y.1
     · exact .inl ((hS b).2 (.inr (.inl x)))
     exact .inl ((hS b).2 (.inr (.inr (.inl x))))
   have hz:Cc2.w.heap.size≤b∨(OwnB Cc2 (Hm++new) b∨S0 b∨b=l)∨b∈Ds:=by
    rcases hb with x|x|x|x
    · exact orMap (z3 b (.inl x)) id .inl
    · exact orMap (z3 b (.inr x)) id .inl
    · exact .inr (.inl (.inr (.inr x)))
    exact .inr (.inr x)
   refine ⟨?_,fun ho=> ?_⟩
   · rcases hz with x| (x|x|x) |x
     · rw [b1] at x;exact .inl x
     · exact .inr (orMap (b6 b x) (fun y=>(hS b).2 (.inl y)) fun y=>y.1)
     · exact .inr (.inl ((hS b).2 (.inr (.inl x))))
     · exact .inr (.inl ((hS b).2 (.inr (.inr (.inl x)))))
     exact .inr (.inl ((hS b).2 (.inr (.inr (.inr x)))))
   have ho2:=hownc ho;rcases hz with x|x|x
   · have:=(a3.own b ho2).2;rw [a1,←b1] at this;exact absurd this (AG.2 x)
   · exact hq2 b ho2 x
   exact hsep b (a5 b ho2) (.inr (.inr (.inr x)))
  cases e3 with
  |normal=>obtain ⟨C3,t3,H3,hK,rfl,hd3⟩:=hq3;exact fin none hd3 (.inl ⟨hi,hK,rfl⟩)
  |ret=>obtain ⟨C3,t3,H3,hK,rfl,hd3⟩:=hq3;exact fin (some .ret) hd3 (.inr ⟨i,.ret,.ret,rfl,hi,hK,rfl,rfl⟩)
  |exit id=>simp only [exitT] at hq3;obtain ⟨C3,t3,H3,hK,rfl,hd3⟩:=hq3;exact fin (some (.exit id)) hd3 (.inr ⟨i,.exit id,.exit id,rfl,hi,hK,rfl,rfl⟩)
  |panic ch=>obtain ⟨_,_,_,_,_,h,_⟩:=hq3;exact h.elim
  |goto _=>exact hq3.elim
  |outgrown=>exact hq3.elim
end Go.Sx
