/- A part of the proof: a symbolic executor over abstract values, and its soundness. -/
import Derived.Test.YtikapabgggphpaaGreatDoorS9
set_option linter.all false
namespace Go.Sx
open Go

variable [Ghost] {P:Program} {AQ:Ex→List SV→List SObj→Prop} {k0:Nat} {k:List IT} {t:List SV} {H:List SObj}

theorem q1F{d:Nat}{v b:Bool}(hv:t.getD d .any= .raw (.bool v)):(t.set d (.raw (.bool b))).getD d .any= .raw (.bool b):=by
 rcases AJ d t.length with hl|hl
 · rw [Aa,Av hl];rfl
 rw [Aa,AS hl] at hv;simp at hv

theorem z9O{io:OpI}{l:List OpI}{d:Nat}{v b:Bool}(hg:io.guard=some (d,b))(hv:t.getD d .any= .raw (.bool v))
 (h1:v=b→(io.op.ev H (evT (t.set d (.raw (.bool b))))).to P H (opK P AQ k0 (.ops l :: k) (t.set d (.raw (.bool b))) io.dst))
 (h2:v= !b→SoundI P AQ ⟨k0,.ops l :: k,putT (t.set d (.raw (.bool !b))) io.dst (.raw (.tuple #[])),H⟩):SoundI P AQ ⟨k0,.ops (io :: l) :: k,t,H⟩:=q0f (fun td' hr=>by
 obtain ⟨all,idx,r,rfl,ho,hr⟩:=hr;cases idx with
 |nil=>exact ho.elim
 |cons i idx=>
  obtain ⟨⟨o,ho1,ho2⟩,ho⟩:=ho;obtain ⟨hc,hd⟩:=q0x ho2;by_cases hb:v=b
  · refine q9P d hv hb ?_;refine q6a ho1 (by rw [(q0o ho2).2.1 d b b hg (q1F hv)];simp) (OpV.mono (q1K hc (h1 hb)) fun x H' hx=> ?_)
    cases x with
    |ret s=>simp only [opK,hd] at hx;exact q0h hx ⟨all,idx,r,rfl,ho,hr⟩
    |pan s=>exact hx
  have hb':v= !b:=by cases v<;>cases b<;>simp_all
  refine q9P d hv hb' ?_;refine q4H ho1 (by rw [(q0o ho2).2.1 d b (!b) hg (q1F hv)];simp) ?_
  have:=h2 hb';rw [hd] at this
  exact q0h this ⟨all,idx,r,rfl,ho,hr⟩) rfl

theorem z4J{io:OpI}{l:List OpI}{d:Nat}{b:Bool}{vs:Array Value}(hg:io.guard=some (d,b))(hv:t.getD d .any= .raw (.tuple vs))
 (h2:SoundI P AQ ⟨k0,.ops l :: k,putT t io.dst (.raw (.tuple #[])),H⟩):SoundI P AQ ⟨k0,.ops (io :: l) :: k,t,H⟩:=q0f (fun td' hr=>by
 obtain ⟨all,idx,r,rfl,ho,hr⟩:=hr;cases idx with
 |nil=>exact ho.elim
 |cons i idx=>
  obtain ⟨⟨o,ho1,ho2⟩,ho⟩:=ho;obtain ⟨hc,hd⟩:=q0x ho2;refine q4H ho1 ((q0o ho2).2.2 d b vs hg hv) ?_;rw [hd] at h2
  exact q0h h2 ⟨all,idx,r,rfl,ho,hr⟩) rfl

theorem q1x{all:Array Oper}{fuel:Nat}{listed:Array Bool}{fl:Bool}{io:OpI}{l:List (Bool×OpI)}(h:planL P all fuel listed=some ((fl,io) :: l)):
 ∃n i o io0,fuel=n+1∧all[i]?=some o∧compO P all o=some io0∧planL P all n (listed.setIfInBounds i true)=some l∧
  planChk all listed i fl=true∧io.dst=io0.dst∧io.guard=io0.guard∧((io=io0∧(fl=true→ldChk all listed i=true))∨(fl=true∧io.op=toS io0.op)):=by
 cases fuel with
 |zero=>
  simp only [planL] at h;split at h<;>cases h
 |succ n=>
  simp only [planL] at h;split at h
  · cases h
  split at h
  · split at h
    · split at h
      · split at h
        · split at h
          · rename_i i fl' _ _ o ho _ io0 hio _ l' hl hc;simp only [Option.some.injEq,List.cons.injEq,Prod.mk.injEq] at h;obtain ⟨⟨rfl,rfl⟩,rfl⟩:=h;refine ⟨n,i,o,io0,rfl,ho,hio,hl,hc,?_⟩;cases hq:(fl'&& !ldChk all listed i) with
            |true=>
             simp only [if_true,true_and];rw [Am] at hq;exact .inr ⟨hq.1,trivial⟩
            |false=>
             simp only [A9,if_false,true_and];refine .inl fun hf=> ?_;rw [hf] at hq;simpa using hq
          cases h
        cases h
      cases h
    cases h
  cases h
theorem j0x(i:IOp)(H:List SObj)(ev:Operand→SV):(toS i).ev H ev=i.ev H ev:=by cases i<;>rfl
theorem z4F{all:Array Oper}{fuel:Nat}{listed:Array Bool}(h:planL P all fuel listed=some []):(Region.ready .any all listed).isEmpty=true:=by
 cases fuel with
 |zero=>
  simp only [planL] at h;split at h
  · assumption
  cases h
 |succ n=>
  simp only [planL] at h;split at h
  · assumption
  split at h
  · split at h
    · split at h
      · split at h
        · split at h<;>cases h
        cases h
      cases h
    cases h
  cases h

theorem j3N{G:List Nat}(h:SoundI P AQ ⟨k0,k,t,H⟩):SoundI P AQ ⟨k0,.dops G [] :: k,t,H⟩:=by
 intro all listed fuel k' hp hr;exact any_nil (z4F hp) (q0h h hr)

def floatOk(G:List Nat)(ev:Operand→SV):IOp→Bool
 |.mov _|.pick .. |.nil _|.bin .. |.eqs .. |.un .. |.toInt .. |.fa .. |.fld .. |.ia .. |.ixs .. |.len .. |.ext .. |.mkf .. |.mke .. |.mki .. |.bld .. |.sl .. |.sl3 .. |.iaa .. |.sla .. |.ixd .. |.ixr .. |.s2a .. |.bdd .. |.sla3 .. =>true
 |.toStr _ x=>match ev x with
  |.bld .. =>false
  |.osl .. =>false
  |_=>true
 |.ld _ x=>match ev x with
  |.ptr h _=>G.contains h
  |.rptr h _ _ _=>G.contains h
  |_=>true
 |.ldS _ x=>match ev x with
  |.ptr h _=>(strictP G).contains h
  |.rptr h _ _ _=>(strictP G).contains h
  |_=>true
 |.mlk _ _ _ m _=>match ev m with
  |.imap .. =>true
  |_=>false
 |_=>false
theorem z2R{G:List Nat}{H':List SObj}{ev:Operand→SV}{b:Bool}{x:Operand}(hf:floatOk G ev (.toStr b x)=true):(IOp.toStr b x).ev H' ev=(IOp.toStr b x).ev H ev:=by
 cases b with
 |false=>rfl
 |true=>
  simp only [IOp.ev,floatOk] at*;generalize ev x=s at*;cases s with
  |bld h t n=>cases hf
  |osl h t off n=>cases hf
  |raw v=>cases v with
   |slice a n c=>cases a<;>cases n<;>cases c<;>rfl
   |_=>rfl
  |isl t xs=>cases t<;>rfl
  |_=>rfl
theorem z2Z{G:List Nat}{H':List SObj}{ev:Operand→SV}{kk:Option IntKind}{z:Value}{ok:Bool}{m k:Operand}(hf:floatOk G ev (.mlk kk z ok m k)=true):(IOp.mlk kk z ok m k).ev H' ev=(IOp.mlk kk z ok m k).ev H ev:=by
 simp only [IOp.ev,floatOk] at*;generalize ev m=s at*;cases s<;>first|rfl| (simp at hf;done)
theorem z0X{G:List Nat}{H':List SObj}{i:IOp}{ev:Operand→SV}(hf:floatOk G ev i=true)(hs:SameG G H H'):i.ev H' ev=i.ev H ev:=by
 cases i<;>first|rfl| (simp [floatOk] at hf;done) |skip
 case toStr b x=>exact z2R hf
 case mlk=>exact z2Z hf
 case ld ag x=>
  simp only [IOp.ev,floatOk] at*;generalize ev x=s at*;cases s<;>first|rfl|skip
  · rename_i v;cases v<;>try rfl
    rename_i p;cases p<;>try rfl
    rename_i a;obtain ⟨b,off,sp⟩:=a;cases sp<;>rfl
  · simp only at hf;simp only [evLd];rw [hs _ (by simpa using hf)]
  simp only at hf;simp only [evLd];rw [hs _ (by simpa using hf)]
 case ldS ag x=>
  simp only [IOp.ev,floatOk] at*;generalize ev x=s at*;cases s<;>first|rfl|skip
  · rename_i v;cases v<;>try rfl
    rename_i p;cases p<;>try rfl
    rename_i a;obtain ⟨b,off,sp⟩:=a;cases sp<;>rfl
  · simp only at hf;simp only [evLd];rw [hs _ (q2m (by simpa using hf))]
  simp only at hf;simp only [evLd];rw [hs _ (q2m (by simpa using hf))]

theorem floatS{G:List Nat}{ev:Operand→SV}{i:IOp}(h:floatOk G ev (toS i)=true):floatOk G ev i=true∧(isLd i=true→∀H H',SameG (strictP G) H H'→i.ev H' ev=i.ev H ev):=by
 cases i<;>first|exact ⟨h,fun hl=>absurd hl Bool.false_ne_true⟩ |skip
 case ld ag x=>
  simp only [toS,floatOk] at h;refine ⟨?_,fun _ H H' hs=>z0X (G:=strictP G) (by simp only [floatOk];exact h) hs⟩
  simp only [floatOk];generalize ev x=s at*;cases s<;>first|rfl| (simp only [List.contains_iff_mem] at h⊢;exact q2m h)
 case ldS ag x=>
  refine ⟨h,fun _ H H' hs=> ?_⟩;simp only [toS,floatOk] at h;exact z0X (i:=.ld ag x) (G:=strictP G) (by simp only [floatOk];exact h) hs
theorem float0{G:List Nat}{all:Array Oper}{listed:Array Bool}{i:Nat}{fl:Bool}{ev:Operand→SV}{io io0:OpI}(hop:(io=io0∧(fl=true→ldChk all listed i=true))∨(fl=true∧io.op=toS io0.op))(hfl:fl=true)(hf:floatOk G ev io.op=true):
 floatOk G ev io0.op=true∧(∀H,io.op.ev H ev=io0.op.ev H ev)∧(isLd io0.op=true→ldChk all listed i=true∨∀H H',SameG (strictP G) H H'→io0.op.ev H' ev=io0.op.ev H ev):=by
 rcases hop with ⟨rfl,h⟩ | ⟨_,h⟩
 · exact ⟨hf,fun _=>rfl,fun _=>.inl (h hfl)⟩
 rw [h] at hf;have h1:=floatS hf;exact ⟨h1.1,fun H=>by rw [h,j0x],fun hl=>.inr (h1.2 hl)⟩
theorem op0{all:Array Oper}{listed:Array Bool}{i:Nat}{fl:Bool}{ev:Operand→SV}{io io0:OpI}(hop:(io=io0∧(fl=true→ldChk all listed i=true))∨(fl=true∧io.op=toS io0.op))(H:List SObj):io.op.ev H ev=io0.op.ev H ev:=by
 rcases hop with ⟨rfl,h⟩ | ⟨_,h⟩
 · rfl
 rw [h,j0x]
theorem z3m{H':List SObj}{G:List Nat}{i:IOp}{ev:Operand→SV}(hf:floatOk G ev i=true)(hl:isLd i=false):i.ev H' ev=i.ev H ev:=by
 cases i<;>first|rfl| (simp [floatOk] at hf;done) | (simp [isLd] at hl;done) |skip
 case toStr b x=>exact z2R hf
 case mlk=>exact z2Z hf
theorem q9S{all:Array Oper}{o:Oper}{io:OpI}(h:compO P all o=some io)(hl:isLd io.op=true):needsLd o=true:=by
 rw [← (compOp'_ok (compO_op' h).1).2.1];exact hl
theorem z8R{all:Array Oper}{o:Oper}{io:OpI}(h:compO P all o=some io):gk o=gkI io.op:=(compOp'_ok (compO_op' h).1).2.2.symm

theorem q1h{all:Array Oper}{listed:Array Bool}{i:Nat}(h:planChk all listed i true=true):((Region.ready .any all listed).contains i&& Region.free .any all listed i)=true∧ldChkS all listed i=true:=by
 simp only [planChk,if_true] at h;rw [Am] at h;exact h

theorem q8S{all:Array Oper}{G:List Nat}{o:Oper}{io:OpI}{p:Prop}{s:SV}{i n:Nat}{listed:Array Bool}{k':List It}(ho:all[i]?=some o)(hc:compO P all o=some io)(hw:wantedT all t o=some true)(hf:floatOk G (evT t) io.op=true)(he:io.op.ev H (evT t)= .val p s)(hp:p)(hL:isLd io.op=true→ldChk all listed i=true∨∀H H',SameG (strictP G) H H'→io.op.ev H' (evT t)=io.op.ev H (evT t))
 (hB:planChk all listed i true=true)(h:AnyV P AQ k0 k' all G n (listed.setIfInBounds i true) (putT t o.dst s) H):AnyV P AQ k0 k' all G (n+1) listed t H:=by
 obtain ⟨h1,h2⟩:=q1h hB;cases hl:isLd io.op with
 |false=>exact q2q h1 ho (.inl ⟨hw,fun H' _ K hk=>q1K (q0x hc).1 (by rw [z3m (H:=H) hf hl,he];exact ⟨hp,hk⟩)⟩) h
 |true=>
  rcases hL hl with h3|h3
  · have hL:ldFree all listed i=true:=by
     simp only [ldChk,ho,q9S hc hl] at h3;simpa using h3
    exact z3Z h1 hL ho (.inl ⟨hw,fun H' hs K hk=>q1K (q0x hc).1 (by rw [z0X hf hs,he];exact ⟨hp,hk⟩)⟩) h
  have hL:closedB all listed=true:=by
   simp only [ldChkS,ho,q9S hc hl] at h2;simpa using h2
  exact z4m h1 hL ho (.inl ⟨hw,fun H' hs K hk=>q1K (q0x hc).1 (by rw [h3 _ _ hs,he];exact ⟨hp,hk⟩)⟩) h

theorem z8S{G:List Nat}{io:OpI}{l:List (Bool×OpI)}{p:Prop}{s:SV}(hg:io.guard=none)(hf:floatOk G (evT t) io.op=true)(he:io.op.ev H (evT t)= .val p s)(hp:p)(h:SoundI P AQ ⟨k0,.dops G l :: k,putT t io.dst s,H⟩):
 SoundI P AQ ⟨k0,.dops G ((true,io) :: l) :: k,t,H⟩:=by
 intro all listed fuel k' hpl hr;obtain ⟨n,i,o,io0,rfl,ho,hco,hpl',hB,hdst,hgd,hop⟩:=q1x hpl;obtain ⟨hf0,he0,hL⟩:=float0 hop rfl hf;refine q8S ho hco ((q0o hco).1 (hgd▸hg)) hf0 ((he0 H).symm.trans he) hp hL hB ?_;rw [← (q0x hco).2,←hdst];exact h all _ n k' hpl' hr

theorem z3B{all:Array Oper}{G:List Nat}{fuel:Nat}{listed:Array Bool}{k':List It}(d:Nat){v b:Bool}(hv:t.getD d .any= .raw (.bool v))(e:v=b)(h:AnyV P AQ k0 k' all G fuel listed (t.set d (.raw (.bool b))) H):AnyV P AQ k0 k' all G fuel listed t H:=by
 subst e;have:t.set d (.raw (.bool v))=t:=by
  rcases AJ d t.length with hl|hl
  · apply Br;intro i;by_cases hi:i=d
    · subst hi;rw [Av hl,←hv,Aa,Ae hl];rfl
    rw [Ap (Ne.symm hi)]
  exact List.set_eq_of_length_le hl
 rwa [this] at h

theorem z9M{G:List Nat}{fl:Bool}{io:OpI}{l:List (Bool×OpI)}{d:Nat}{v b:Bool}(hg:io.guard=some (d,b))(hv:t.getD d .any= .raw (.bool v))
 (h1:v=b→SoundI P AQ ⟨k0,.dops G ((fl,{io with guard:=some (d,b)}) :: l) :: k,t.set d (.raw (.bool b)),H⟩)
 (h2:v= !b→SoundI P AQ ⟨k0,.dops G ((fl,{io with guard:=some (d,b)}) :: l) :: k,t.set d (.raw (.bool !b)),H⟩):SoundI P AQ ⟨k0,.dops G ((fl,io) :: l) :: k,t,H⟩:=by
 have hio:{io with guard:=some (d,b)}=io:=by cases io;simp at hg;subst hg;rfl
 rw [hio] at h1 h2;intro all listed fuel k' hpl hr;by_cases hb:v=b
 · exact z3B d hv hb (h1 hb all listed fuel k' hpl hr)
 have hb':v= !b:=by cases v<;>cases b<;>simp_all
 exact z3B d hv hb' (h2 hb' all listed fuel k' hpl hr)

theorem z4h{G:List Nat}{io:OpI}{l:List (Bool×OpI)}{d:Nat}{b:Bool}{p:Prop}{s:SV}(hg:io.guard=some (d,b))(hv:t.getD d .any= .raw (.bool b))(hf:floatOk G (evT t) io.op=true)(he:io.op.ev H (evT t)= .val p s)(hp:p)(h:SoundI P AQ ⟨k0,.dops G l :: k,putT t io.dst s,H⟩):
 SoundI P AQ ⟨k0,.dops G ((true,io) :: l) :: k,t,H⟩:=by
 intro all listed fuel k' hpl hr;obtain ⟨n,i,o,io0,rfl,ho,hco,hpl',hB,hdst,hgd,hop⟩:=q1x hpl;obtain ⟨hf0,he0,hL⟩:=float0 hop rfl hf;refine q8S ho hco (by rw [(q0o hco).2.1 d b b (hgd▸hg) hv];simp) hf0 ((he0 H).symm.trans he) hp hL hB ?_
 rw [← (q0x hco).2,←hdst];exact h all _ n k' hpl' hr
theorem z2n{all:Array Oper}{G:List Nat}{fuel i:Nat}{listed:Array Bool}{o:Oper}{k':List It}(fl:Bool)(hB:planChk all listed i fl=true)(ho:all[i]?=some o)(hw:wantedT all t o=some false)
 (h:AnyV P AQ k0 k' all G fuel (listed.setIfInBounds i true) (putT t o.dst (.raw (.tuple #[]))) H):AnyV P AQ k0 k' all G (fuel+1) listed t H:=by
 cases fl with
 |true=>exact z8e (q1h hB).1 ho hw h
 |false=>
  have hB':Region.ready .any all listed= [i]:=by simpa [planChk] using hB
  refine ⟨fun h0=>(by rw [hB'] at h0;cases h0),fun j hj=> ?_⟩
  rw [hB'] at hj;obtain rfl:j=i:=by simpa using hj
  exact ⟨o,ho,.inr ⟨hw,SameG.refl _ _,h⟩⟩
theorem j2E{G:List Nat}{fl:Bool}{io:OpI}{l:List (Bool×OpI)}{d:Nat}{b:Bool}(hg:io.guard=some (d,b))(hv:t.getD d .any= .raw (.bool !b))(h:SoundI P AQ ⟨k0,.dops G l :: k,putT t io.dst (.raw (.tuple #[])),H⟩):
 SoundI P AQ ⟨k0,.dops G ((fl,io) :: l) :: k,t,H⟩:=by
 intro all listed fuel k' hpl hr;obtain ⟨n,i,o,io0,rfl,ho,hco,hpl',hB,hdst,hgd,hop⟩:=q1x hpl;refine z2n fl hB ho (by rw [(q0o hco).2.1 d b (!b) (hgd▸hg) hv];simp) ?_
 rw [← (q0x hco).2,←hdst];exact h all _ n k' hpl' hr

theorem z8h{G:List Nat}{fl:Bool}{io:OpI}{l:List (Bool×OpI)}{d:Nat}{b:Bool}{vs:Array Value}(hg:io.guard=some (d,b))(hv:t.getD d .any= .raw (.tuple vs))(h:SoundI P AQ ⟨k0,.dops G l :: k,putT t io.dst (.raw (.tuple #[])),H⟩):
 SoundI P AQ ⟨k0,.dops G ((fl,io) :: l) :: k,t,H⟩:=by
 intro all listed fuel k' hpl hr;obtain ⟨n,i,o,io0,rfl,ho,hco,hpl',hB,hdst,hgd,hop⟩:=q1x hpl;refine z2n fl hB ho ((q0o hco).2.2 d b vs (hgd▸hg) hv) ?_;rw [← (q0x hco).2,←hdst];exact h all _ n k' hpl' hr

def opKG(P:Program)(AQ:Ex→List SV→List SObj→Prop)(k0:Nat)(g:Bool)(G:List Nat)(H:List SObj)(td:List IT)(t:List SV)(d:Option Tmp):Out→List SObj→Prop
 |.ret s,H'=>(g=true→SameG G H H')∧SoundI P AQ ⟨k0,td,putT t d s,H'⟩
 |.pan s,H'=>AQ (.pan s) [] H'
theorem j0a{G:List Nat}{io:OpI}{l:List (Bool×OpI)}(hg:io.guard=none∨∃d b,io.guard=some (d,b)∧t.getD d .any= .raw (.bool b))(h:(io.op.ev H (evT t)).to P H (opKG P AQ k0 true (if gkI io.op then G else strictP G) H (.dops G l :: k) t io.dst)):
 SoundI P AQ ⟨k0,.dops G ((false,io) :: l) :: k,t,H⟩:=by
 intro all listed fuel k' hpl hr;obtain ⟨n,i,o,io0,rfl,ho,hco,hpl',hB,hdst,hgd,hop⟩:=q1x hpl;have hw:wantedT all t o=some true:=by
  rcases hg with hg| ⟨d,b,hg,hv⟩
  · exact (q0o hco).1 (hgd▸hg)
  rw [(q0o hco).2.1 d b b (hgd▸hg) hv];simp
 obtain ⟨rfl, -⟩:io=io0∧True:=by
  rcases hop with h|h
  · exact ⟨h.1,trivial⟩
  cases h.1
 refine j0N hB ho hw (OpV.mono (q1K (q0x hco).1 h) fun x H' hx=> ?_);cases x with
 |ret s=>
  simp only [opKG,(q0x hco).2] at hx;refine ⟨?_,hx.2 all _ n k' hpl' hr⟩;simp only [gsel,ho];rw [z8R hco];exact hx.1 trivial
 |pan s=>exact hx

theorem j1E{G:List Nat}{io:OpI}{l:List (Bool×OpI)}{f:FuncId}{args:List SV}{s:SV}(hg:io.guard=none∨∃d b,io.guard=some (d,b)∧t.getD d .any= .raw (.bool b))(he:∀H',io.op.ev H' (evT t)= .call f args)(hf:enters P f=true)
 (hc:∀ (H':List SObj) (K:Out→List SObj→Prop),K (.ret s) H'→VCallG P f args H' K)(h:SoundI P AQ ⟨k0,.dops G l :: k,putT t io.dst s,H⟩):
 SoundI P AQ ⟨k0,.dops G ((true,io) :: l) :: k,t,H⟩:=by
 intro all listed fuel k' hpl hr;obtain ⟨n,i,o,io0,rfl,ho,hco,hpl',hB,hdst,hgd,hop⟩:=q1x hpl;have hw:wantedT all t o=some true:=by
  rcases hg with hg| ⟨d,b,hg,hv⟩
  · exact (q0o hco).1 (hgd▸hg)
  rw [(q0o hco).2.1 d b b (hgd▸hg) hv];simp
 refine q2q (q1h hB).1 ho (.inl ⟨hw,fun H' _ K hk=>q1K (q0x hco).1 (by rw [←op0 hop H',he H'];exact ⟨hf,hc H' K hk⟩)⟩) ?_
 rw [← (q0x hco).2,←hdst];exact h all _ n k' hpl' hr
theorem z8E{H':List SObj}{v:Value}{ag:Option Nat}:evLd H' ag (.raw v)=evLd H ag (.raw v):=by
 cases v<;>try rfl
 rename_i p;cases p<;>try rfl
 rename_i a;obtain ⟨b,off,sp⟩:=a;cases sp<;>rfl
theorem z2P{H':List SObj}{s:SV}{ag ag':Option Nat}{b off:Nat}(h:evLd H ag' s= .zld ag b off):evLd H' ag' s= .zld ag b off:=by
 cases s with
 |raw v=>rw [z8E (H:=H)];exact h
 |ptr x k=>
  simp only [evLd] at h;repeat' (first| (cases h;done) |split at h)
 |rptr x t i k=>
  simp only [evLd,ldRow] at h;repeat' (first| (cases h;done) |split at h)
 |_=>exact h
theorem j3A{G:List Nat}{i:IOp}{H':List SObj}{ev:Operand→SV}{ag:Option Nat}{b off:Nat}(hf:floatOk G ev i=true)(h:i.ev H ev= .zld ag b off):i.ev H' ev= .zld ag b off:=by
 cases hl:isLd i with
 |false=>rw [z3m (H:=H) hf hl];exact h
 |true=>
  cases i<;>first| (cases hl;done) |skip
  case ld ag' x=>exact z2P h
  case ldS ag' x=>exact z2P h
theorem j3V{G:List Nat}{io:OpI}{l:List (Bool×OpI)}{ag:Option Nat}{b off:Nat}{s:SV}(hg:io.guard=none∨∃d b,io.guard=some (d,b)∧t.getD d .any= .raw (.bool b))(he:∀H',io.op.ev H' (evT t)= .zld ag b off)
 (hc:∀ (E:EnD) (C:Cx) (H':List SObj),Wd C H'→Ghost.inv E C H'→ZLd C ag b off s)(h:SoundI P AQ ⟨k0,.dops G l :: k,putT t io.dst s,H⟩):
 SoundI P AQ ⟨k0,.dops G ((true,io) :: l) :: k,t,H⟩:=by
 intro all listed fuel k' hpl hr;obtain ⟨n,i,o,io0,rfl,ho,hco,hpl',hB,hdst,hgd,hop⟩:=q1x hpl;have hw:wantedT all t o=some true:=by
  rcases hg with hg| ⟨d,b,hg,hv⟩
  · exact (q0o hco).1 (hgd▸hg)
  rw [(q0o hco).2.1 d b b (hgd▸hg) hv];simp
 refine q2q (q1h hB).1 ho (.inl ⟨hw,fun H' _ K hk=>q1K (q0x hco).1 (by rw [←op0 hop H',he H'];exact fun E C hw hi=>⟨s,hc E C H' hw hi,hk⟩)⟩) ?_
 rw [← (q0x hco).2,←hdst];exact h all _ n k' hpl' hr
section
variable {o:Oper} {ev:Operand→SV} {K:Out→List SObj→Prop}
theorem j1t{C:Cx}{w':World}(hw:Wd C H)(hs:C.w.heap.size≤w'.heap.size)(hb:∀b,b<C.w.heap.size→w'.heap[b]?=C.w.heap[b]?)(h1:w'.os=C.w.os)(h2:w'.tape=C.w.tape)(h3:w'.output=C.w.output):
 Wd {C with w:=w'} H∧Ext ⟨C,H⟩ {C with w:=w'} H:=by
 have he:Evo C {C with w:=w'}:=⟨Ag _,fun _ _=>rfl,fun b hI=>⟨hI,hb b (hw.imm b hI)⟩,fun b m hm=>by
  have hlt:=q8W hm;unfold World.bsize at hm⊢
  rw [hb b hlt];exact hm⟩
 refine ⟨⟨hw.n,fun h o ho=> ?_,fun b hb'=> ?_,hw.inj,fun b hI=>An (hw.imm b hI) hs⟩,⟨he,hs,h1,h2,h3,fun b hb' _=>hb b hb',fun b hI=>.inl hI,fun b hb'=>.inr hb',fun _ _ h=>h⟩⟩
 · by_cases hl:o.live=true
   · exact q0z (C':={C with w:=w'}) he.I h rfl (fun b hb'=>hb b (hw.own b ⟨h,o,ho,hl,hb'⟩).2) (q0n he) (hw.obj h o ho)
   cases o<;>first|trivial|simp [SObj.live] at hl
 obtain ⟨h1,h2⟩:=hw.own b hb';exact ⟨h1,An h2 hs⟩
theorem z9r{T e:TypeId}{ty:Ty}{len sz:Nat}{parts:Array (Nat×Operand)}{zs:List Value}{cs:List SV}{xs:List ty.den}{p:Prop}(hop:o.op= .buildSlice T len parts)(ht:P.underlying T=some (.slice e))(hs:(P.info? e).map (·.size)=some sz)
 (hz:zerosOf P e len=some zs)(hf:fillS (PlaceK.arr sz).fn (rawL zs) (parts.toList.map fun p=>(p.1,ev p.2))=some cs)(hr:rdL ty len cs=some (xs,p))(hp:p)(hl:len≤1125899906842624)
 (hk:K (.ret (.fsl ty xs)) H):OpV P o ev H K:=by
 refine q0I (by rw [hop];intro c hc;cases hc) fun C e' hw hv=> ?_
 rw [hop] at hv;simp only [Op.operands] at hv;obtain ⟨us,h1,h2⟩:=q2y (C:=C) (e:=e') (parts:=parts) (fun q hq=>hv q.2 (by simpa using ⟨q.1,by simpa using hq⟩)) hf
 obtain ⟨g1,g2⟩:=q8B len cs xs p us hr hp h2;have hrun:(execOp e' o).run P C.w= .ok (.value (.slice (some ⟨C.w.heap.size,0,none⟩) len len)) (C.w.alloc (.cells us.toArray e)):=by
  unfold zerosOf at hz;cases hi:P.info? e with
  |none=>simp [hi] at hz
  |some i=>
   simp only [hi] at hz;cases hz0:i.zero with
   |none=>simp [hz0] at hz
   |some z=>
    simp only [hz0] at hz;split at hz
    · rename_i hle;have hsi:i.size=sz:=by simpa [hi] using hs
      cases hz;simp only [execOp,hop,Sem.run_bind,Instr.buildSlice,run_underlying' ht,Result.andThen,q0l hs,Sem.run_ite];rw [hsi] at h1 hle;rw [if_neg (by omega)]
      have hzr:(zeroValue e).run P C.w= .ok z C.w:=by simp [zeroValue,typeInfo,hi,hz0]
      have h1':=h1;simp only [Cl] at h1';by_cases h0:len*sz=0
      · simp only [if_pos h0,Sem.run_pure] at h1'⊢
        erw [h1']
        simp [newRow]
      simp only [if_neg h0,hzr,Sem.run_pure] at h1'⊢
      erw [h1']
      simp [newRow]
    cases hz
 have hsz:(C.w.alloc (.cells us.toArray e)).heap.size=C.w.heap.size+1:=Array.size_push _;obtain ⟨w1,w2⟩:=j1t (w':=C.w.alloc (.cells us.toArray e)) hw (by rw [hsz];exact CC _) (fun b hb=>q1o _ _ hb) rfl rfl rfl
 have hnew:(C.w.alloc (.cells us.toArray e)).heap[C.w.heap.size]?=some (.cells us.toArray e (0,0)):=q1n _ _
 let C':Cx:={C with w:=C.w.alloc (.cells us.toArray e),I:=fun b=>C.I b∨b=C.w.heap.size}
 have hI:Keeps C.I C'.I C.w C'.w:=fun b hb=>⟨.inl hb,(w2.evo.I b hb).2⟩;have he:Evo C C':=⟨Ag _,fun _ _=>rfl,hI,w2.evo.sz⟩;have hnown:∀b,OwnB C H b→b≠C.w.heap.size:=fun b hb=>Nat.ne_of_lt (hw.own b hb).2;refine ⟨.fsl ty xs,.slice (some ⟨C.w.heap.size,0,none⟩) len len,H,C',hk,.inl hrun,⟨hw.n,fun h x hx=> ?_,fun b hb=> ?_,hw.inj,fun b hb=> ?_⟩,⟨he,w2.size,w2.os,w2.tape,w2.output,w2.frame,fun b hb=> ?_,w2.ownNew,w2.keep0⟩,?_⟩
 · by_cases hl:x.live=true
   · exact q0z (C':=C') hI h rfl (fun b hb=>q1o _ _ (hw.own b ⟨h,x,hx,hl,hb⟩).2) (q0n he) (hw.obj h x hx)
   cases x<;>first|trivial|simp [SObj.live] at hl
 · have:=hw.own b hb;exact ⟨fun hi=>hi.elim this.1 (hnown b hb),by show b< (C.w.alloc _).heap.size;rw [hsz];omega⟩
 · show b< (C.w.alloc _).heap.size;rw [hsz];exact hb.elim (fun x=>Nat.lt_succ_of_lt (hw.imm b x)) fun x=>by rw [x];exact Nat.lt_succ_self _
 · refine orMap hb id fun x=>⟨.inl (CK x.symm),fun c T' fz hc=> ?_⟩;subst x;have hc':(C.w.alloc (.cells us.toArray e)).heap[C.w.heap.size]?=_:=hc;rw [hnew] at hc';cases hc';simp
 rw [SV.den];refine ⟨⟨_,len,len,rfl,g2.symm,Ag _,hl,.inr ⟨C.w.heap.size,0,rfl,.inr rfl,fun i x hx=> ?_⟩⟩,_,by rw [g2]⟩
 obtain ⟨us',q1,q2⟩:=q8Z g1 i x hx;refine ⟨us',Ty.rel_keep hI _ _ _ q1,fun k u hu=> ?_⟩;show (C.w.alloc _).cell? _=_;rw [Ac,q0m hnew];exact q2 k u hu

theorem j1O{op:Op}{ty:Ty}{n sz:Nat}{zs:List Value}{ps:List (Nat×Operand)}(h:compOp P op=some (.bsl ty n sz zs ps))(hn:∀T n ps,op≠ .buildSlice T n ps):False:=by
 unfold compOp at h;repeat' split at h
 all_goals first
  |exact hn _ _ _ rfl
  |contradiction
  | (simp only [Bl,Ar,Option.some.injEq,reduceCtorEq,and_false,exists_false] at h;done)
  | (simp [Bl] at h;done)
end
def isBslI:IOp→Bool
 |.bsl .. =>true
 |_=>false
theorem j2Z{i:IOp}(h:isBslI (toS i)=true):toS i=i:=by cases i<;>first|rfl|cases h
theorem z7d{t:Ty}:∀ (n:Nat) (cs:List SV) (xs:List t.den) (p:Prop),rdL t n cs=some (xs,p)→xs.length=n
 |0,[],xs,p,h=>by cases h;rfl
 |0,_ :: _,xs,p,h=>by simp [rdL] at h
 |n+1,cs,xs,p,h=>by
  simp only [rdL] at h;split at h
  · cases h;rename_i hr;rw [AM,z7d n _ _ _ hr]
  cases h
theorem j4h{G:List Nat}{io:OpI}{l:List (Bool×OpI)}{p:Prop}{s:SV}{Hk:List SObj}{ty:Ty}{xs:List ty.den}(hg:io.guard=none∨∃d b,io.guard=some (d,b)∧t.getD d .any= .raw (.bool b))(hb:isBslI io.op=true)(he:io.op.ev H (evT t)= .new p s Hk (.row ty xs))(hp:p)(hl:xs.length≤1125899906842624)
 (h:SoundI P AQ ⟨k0,.dops G l :: k,putT t io.dst (.fsl ty xs),H⟩):SoundI P AQ ⟨k0,.dops G ((true,io) :: l) :: k,t,H⟩:=by
 intro all listed fuel k' hpl hr;obtain ⟨n,i,o,io0,rfl,ho,hco,hpl',hB,hdst,hgd,hop⟩:=q1x hpl;have hw:wantedT all t o=some true:=by
  rcases hg with hg| ⟨d,b,hg,hv⟩
  · exact (q0o hco).1 (hgd▸hg)
  rw [(q0o hco).2.1 d b b (hgd▸hg) hv];simp
 have hio:io0.op=io.op:=by
  rcases hop with ⟨rfl,_⟩ | ⟨_,h1⟩
  · rfl
  rw [h1] at hb;rw [h1,j2Z hb]
 have hcp:=(q0x hco).1;rw [hio] at hcp;refine q2q (q1h hB).1 ho (.inl ⟨hw,fun H' _ K hk=> ?_⟩) (by rw [← (q0x hco).2,←hdst];exact h all _ n k' hpl' hr)
 cases hx:io.op with
 |bsl ty' m sz zs ps=>
  rw [hx] at he hcp;simp only [IOp.ev] at he;split at he
  · rename_i cs hf;split at he
    · rename_i ys q hr';cases he;cases hop:o.op with
      |buildSlice T n' parts=>
       rw [hop] at hcp;simp only [compOp] at hcp;split at hcp
       · rename_i e hT;split at hcp
         · rename_i ty2 sz' zs' h1 h2 h3;cases hcp;exact z9r hop hT h2 h3 hf hr' hp (z7d _ _ _ _ hr'▸hl) hk
         · cases hcp
         cases hcp
       cases hcp
      |_=>exact (j1O hcp (by rw [hop];intro _ _ _ h;cases h)).elim
    cases he
  cases he
 |_=>rw [hx] at hb;cases hb
end Go.Sx
namespace Go.Sx
open Go

variable [Ghost] {P:Program} {AQ:Ex→List SV→List SObj→Prop} {k0:Nat} {k:List IT} {t:List SV} {H:List SObj}

def VC(P:Program)(f:FuncId)(args:List SV)(H:List SObj)(K:Out→List SObj→Prop):Prop:=enters P f=true∧VCall P f args H K
def VCG(P:Program)(f:FuncId)(args:List SV)(H:List SObj)(K:Out→List SObj→Prop):Prop:=enters P f=true∧VCallG P f args H K
theorem VC.g{f:FuncId}{args:List SV}{K:Out→List SObj→Prop}(h:VC P f args H K):VCG P f args H K:=⟨h.1,h.2.g⟩

def CallI(P:Program)(AQ:Ex→List SV→List SObj→Prop)(f:FuncId)(args:List SV)(d:Option Tmp)(m:IM):Prop:=
 VCG P f args m.heap (opK P AQ m.k0 m.todo m.tmps d)
def CallR(P:Program)(AQ:Ex→List SV→List SObj→Prop)(G:List Nat)(f:FuncId)(args:List SV)(d:Option Tmp)(m:IM):Prop:=
 VCG P f args m.heap (opKG P AQ m.k0 true G m.heap m.todo m.tmps d)
def CallF(P:Program)(AQ:Ex→List SV→List SObj→Prop)(f:FuncId)(args:List SV)(d:Option Tmp)(m:IM):Prop:=
 ∃s,enters P f=true∧(∀ (H':List SObj) (K:Out→List SObj→Prop),K (.ret s) H'→VCallG P f args H' K)∧SoundI P AQ {m with tmps:=putT m.tmps d s}

def ZldF(P:Program)(AQ:Ex→List SV→List SObj→Prop)(ag:Option Nat)(b off:Nat)(d:Option Tmp)(m:IM):Prop:=
 ∃s,(∀ (E:EnD) (C:Cx) (H':List SObj),Wd C H'→Ghost.inv E C H'→ZLd C ag b off s)∧SoundI P AQ {m with tmps:=putT m.tmps d s}
def ZldI(P:Program)(AQ:Ex→List SV→List SObj→Prop)(ag:Option Nat)(b off:Nat)(d:Option Tmp)(m:IM):Prop:=(Res.zld ag b off).to P m.heap (opK P AQ m.k0 m.todo m.tmps d)
def ZstI(P:Program)(AQ:Ex→List SV→List SObj→Prop)(n b off:Nat)(y:SV)(d:Option Tmp)(m:IM):Prop:=(Res.zst n b off y).to P m.heap (opK P AQ m.k0 m.todo m.tmps d)
def ZldR(P:Program)(AQ:Ex→List SV→List SObj→Prop)(g:Bool)(G:List Nat)(ag:Option Nat)(b off:Nat)(d:Option Tmp)(m:IM):Prop:=(Res.zld ag b off).to P m.heap (opKG P AQ m.k0 g G m.heap m.todo m.tmps d)
def ZstR(P:Program)(AQ:Ex→List SV→List SObj→Prop)(g:Bool)(G:List Nat)(n b off:Nat)(y:SV)(d:Option Tmp)(m:IM):Prop:=(Res.zst n b off y).to P m.heap (opKG P AQ m.k0 g G m.heap m.todo m.tmps d)
def YldI(P:Program)(AQ:Ex→List SV→List SObj→Prop)(l:Nat)(args:List SV)(d:Option Tmp)(m:IM):Prop:=(Res.yld l args).to P m.heap (opK P AQ m.k0 m.todo m.tmps d)
def YldR(P:Program)(AQ:Ex→List SV→List SObj→Prop)(g:Bool)(G:List Nat)(l:Nat)(args:List SV)(d:Option Tmp)(m:IM):Prop:=(Res.yld l args).to P m.heap (opKG P AQ m.k0 g G m.heap m.todo m.tmps d)

def exec(P:Program)(AQ:Ex→List SV→List SObj→Prop)(rec:IM→Prop)(k0:Nat)(td:List IT)(t:List SV)(H:List SObj)(d:Option Tmp):Res→Prop
 |.val p s=>p∧rec ⟨k0,td,putT t d s,H⟩
 |.amb E s=>∀b:Bool,(b=true→E)→rec ⟨k0,td,putT t d (s b),H⟩
 |.new p s Hk so=>p∧rec ⟨k0,td,putT t d s,Hk++ [so]⟩
 |.set s h so=>rec ⟨k0,td,putT t d s,H.set h so⟩
 |.setp p s h so=>p∧rec ⟨k0,td,putT t d s,H.set h so⟩
 |.call f args=>CallI P AQ f args d ⟨k0,td,t,H⟩
 |.zld ag b off=>ZldI P AQ ag b off d ⟨k0,td,t,H⟩
 |.zst n b off y=>ZstI P AQ n b off y d ⟨k0,td,t,H⟩
 |.yld l args=>YldI P AQ l args d ⟨k0,td,t,H⟩
 |.pan s=>AQ (.pan s) t H
 |.none=>False

def execR(P:Program)(AQ:Ex→List SV→List SObj→Prop)(rec:IM→Prop)(g:Bool)(k0:Nat)(G:List Nat)(td:List IT)(t:List SV)(H:List SObj)(d:Option Tmp):Res→Prop
 |.val p s=>p∧rec ⟨k0,td,putT t d s,H⟩
 |.amb E s=>∀b:Bool,(b=true→E)→rec ⟨k0,td,putT t d (s b),H⟩
 |.new p s Hk so=>p∧(g=true→SameG G H (Hk++ [so]))∧rec ⟨k0,td,putT t d s,Hk++ [so]⟩
 |.set s h so=>(g=true→SameG G H (H.set h so))∧rec ⟨k0,td,putT t d s,H.set h so⟩
 |.setp p s h so=>p∧(g=true→SameG G H (H.set h so))∧rec ⟨k0,td,putT t d s,H.set h so⟩
 |.call f args=>g=true∧CallR P AQ G f args d ⟨k0,td,t,H⟩
 |.zld ag b off=>ZldR P AQ g G ag b off d ⟨k0,td,t,H⟩
 |.zst n b off y=>ZstR P AQ g G n b off y d ⟨k0,td,t,H⟩
 |.yld l args=>YldR P AQ g G l args d ⟨k0,td,t,H⟩
 |.pan s=>AQ (.pan s) [] H
 |.none=>False

def execF(P:Program)(AQ:Ex→List SV→List SObj→Prop)(rec:IM→Prop)(c q:Bool)(k0:Nat)(td:List IT)(t:List SV)(H:List SObj)(d:Option Tmp):Res→Prop
 |.val p s=>p∧rec ⟨k0,td,putT t d s,H⟩
 |.call f args=>c=true∧CallF P AQ f args d ⟨k0,td,t,H⟩
 |.zld ag b off=>ZldF P AQ ag b off d ⟨k0,td,t,H⟩
 |.new p _ _ (.row ty xs)=>q=true∧p∧xs.length≤1125899906842624∧rec ⟨k0,td,putT t d (.fsl ty xs),H⟩
 |_=>False

def gOf:Nat→List Nat
 |0=>[]
 |n+1=>n :: gOf n

def isCallI:IOp→Bool
 |.call _ _=>true
 |_=>false

def bothG(b v:Bool)(A B:Prop):Prop:=(v=b→A)∧(v= !b→B)
theorem z9l(A B:Prop):bothG true true A B=A:=by simp [bothG]
theorem z8b(A B:Prop):bothG true false A B=B:=by simp [bothG]
theorem z7R(A B:Prop):bothG false true A B=B:=by simp [bothG]
theorem z9B(A B:Prop):bothG false false A B=A:=by simp [bothG]
theorem j0V(v:Bool)(A B:Prop):bothG true v A B=((v=true→A)∧(v=false→B)):=rfl
theorem j1A(v:Bool)(A B:Prop):bothG false v A B=((v=false→A)∧(v=true→B)):=rfl
theorem q2g{h:Nat}{G:List Nat}{H H':List SObj}:SameG (h :: G) H H'=(H'[h]?=H[h]?∧SameG G H H'):=by simp [SameG]
theorem q2I{H H':List SObj}:SameG [] H H'=True:=by simp [SameG]

def run(P:Program)(AQ:Ex→List SV→List SObj→Prop):Nat→IM→Prop
 |0,m=>SoundI P AQ m
 |n+1,⟨k0,td,t,H⟩=>match td with
  | []=>AQ .normal t H
  |.ic c :: k=>match c with
   |.skip=>run P AQ n ⟨k0,k,t,H⟩
   |.seq a b=>run P AQ n ⟨k0,.ic a :: .ic b :: k,t,H⟩
   |.cond c a b=>match evT t c with
    |.raw (.bool v)=>bothG true v (run P AQ n ⟨k0,.ic a :: k,t,H⟩) (run P AQ n ⟨k0,.ic b :: k,t,H⟩)
    |_=>False
   |.blk id c=>run P AQ n ⟨k0,.ic c :: .blk id :: k,t,H⟩
   |.loop c=>SoundI P AQ ⟨k0,.ic (.loop c) :: k,t,H⟩
   |.exit id=>match exitI id k with
    |some k'=>run P AQ n ⟨k0,k',t,H⟩
    |none=>AQ (.exit id) t H
   |.ret=>AQ .ret t H
   |.rf g ps a b=>SoundI P AQ ⟨k0,.ic (.rf g ps a b) :: k,t,H⟩
   |.scp c=>run P AQ n ⟨k0,.ic c :: k,t,H⟩
   |.lbl _=>run P AQ n ⟨k0,k,t,H⟩
   |.hnd all=>SoundI P AQ ⟨k0,.ic (.hnd all) :: k,t,H⟩
   |.reg l=>run P AQ n ⟨k0,.ops l :: k,t,H⟩
   |.drw l=>run P AQ n ⟨k0,.dops (gOf H.length) l :: k,t,H⟩
  |.blk _ :: k=>run P AQ n ⟨k0,k,t,H⟩
  |.stop Φ :: _=>Φ t H
  |.ops l :: k=>match l with
   | []=>run P AQ n ⟨k0,k,t,H⟩
   |io :: l=>match io.guard with
    |none=>exec P AQ (run P AQ n) k0 (.ops l :: k) t H io.dst (io.op.ev H (evT t))
    |some (d,b)=>match t.getD d .any with
     |.raw (.bool v)=>bothG b v (exec P AQ (run P AQ n) k0 (.ops l :: k) (t.set d (.raw (.bool b))) H io.dst (io.op.ev H (evT (t.set d (.raw (.bool b))))))
      (run P AQ n ⟨k0,.ops l :: k,putT (t.set d (.raw (.bool !b))) io.dst (.raw (.tuple #[])),H⟩)
     |.raw (.tuple _)=>run P AQ n ⟨k0,.ops l :: k,putT t io.dst (.raw (.tuple #[])),H⟩
     |_=>False
  |.dops G l :: k=>match l with
   | []=>run P AQ n ⟨k0,k,t,H⟩
   | (fl,io) :: l=>match io.guard with
    |none=>match fl with
     |true=>(floatOk G (evT t) io.op||isCallI io.op||isBslI io.op)=true∧execF P AQ (run P AQ n) (isCallI io.op) (isBslI io.op) k0 (.dops G l :: k) t H io.dst (io.op.ev H (evT t))
     |false=>execR P AQ (run P AQ n) true k0 (if gkI io.op then G else strictP G) (.dops G l :: k) t H io.dst (io.op.ev H (evT t))
    |some (d,b)=>match t.getD d .any with
     |.raw (.bool v)=>bothG b v (match fl with
      |true=>(floatOk G (evT (t.set d (.raw (.bool b)))) io.op||isCallI io.op||isBslI io.op)=true∧execF P AQ (run P AQ n) (isCallI io.op) (isBslI io.op) k0 (.dops G l :: k) (t.set d (.raw (.bool b))) H io.dst (io.op.ev H (evT (t.set d (.raw (.bool b)))))
      |false=>execR P AQ (run P AQ n) true k0 (if gkI io.op then G else strictP G) (.dops G l :: k) (t.set d (.raw (.bool b))) H io.dst (io.op.ev H (evT (t.set d (.raw (.bool b))))))
      (run P AQ n ⟨k0,.dops G l :: k,putT (t.set d (.raw (.bool !b))) io.dst (.raw (.tuple #[])),H⟩)
     |.raw (.tuple _)=>run P AQ n ⟨k0,.dops G l :: k,putT t io.dst (.raw (.tuple #[])),H⟩
     |_=>False

theorem z7s{rec:IM→Prop}(hrec:∀m,rec m→SoundI P AQ m){td:List IT}{d:Option Tmp}{r:Res}(h:exec P AQ rec k0 td t H d r):r.to P H (opK P AQ k0 td t d):=by
 cases r with
 |val p s=>exact ⟨h.1,hrec _ h.2⟩
 |amb E s=>exact fun b hb=>hrec _ (h b hb)
 |new p s Hk so=>exact ⟨h.1,hrec _ h.2⟩
 |set s x so=>exact hrec _ h
 |setp p s x so=>exact ⟨h.1,hrec _ h.2⟩
 |call f args=>exact h
 |zld ag b off=>exact h
 |zst n b off y=>exact h
 |yld l args=>exact h
 |pan s=>exact h
 |none=>exact h
theorem z3n{rec:IM→Prop}(hrec:∀m,rec m→SoundI P AQ m){G:List Nat}{td:List IT}{d:Option Tmp}{r:Res}{g:Bool}(h:execR P AQ rec g k0 G td t H d r):r.to P H (opKG P AQ k0 g G H td t d):=by
 cases r with
 |val p s=>exact ⟨h.1,fun _=>SameG.refl _ _,hrec _ h.2⟩
 |amb E s=>exact fun b hb=>⟨fun _=>SameG.refl _ _,hrec _ (h b hb)⟩
 |new p s Hk so=>exact ⟨h.1,h.2.1,hrec _ h.2.2⟩
 |set s x so=>exact ⟨h.1,hrec _ h.2⟩
 |setp p s x so=>exact ⟨h.1,h.2.1,hrec _ h.2.2⟩
 |call f args=>obtain ⟨rfl,h⟩:=h;exact h
 |zld ag b off=>exact h
 |zst n b off y=>exact h
 |yld l args=>exact h
 |pan s=>exact h
 |none=>exact h

theorem j3p{i:IOp}{H':List SObj}{ev:Operand→SV}{f:FuncId}{args:List SV}(key:isCallI i=true)(h:i.ev H ev= .call f args):i.ev H' ev= .call f args:=by
 cases i<;>first|exact h|simp [isCallI] at key

theorem q6U{rec:IM→Prop}(hrec:∀m,rec m→SoundI P AQ m){G:List Nat}{io:OpI}{l:List (Bool×OpI)}(hg:io.guard=none∨∃d b,io.guard=some (d,b)∧t.getD d .any= .raw (.bool b))
 (hf:(floatOk G (evT t) io.op||isCallI io.op||isBslI io.op)=true)(h:execF P AQ rec (isCallI io.op) (isBslI io.op) k0 (.dops G l :: k) t H io.dst (io.op.ev H (evT t))):SoundI P AQ ⟨k0,.dops G ((true,io) :: l) :: k,t,H⟩:=by
 generalize hr:io.op.ev H (evT t)=r at h;cases r with
 |val p s=>
  have hf':floatOk G (evT t) io.op=true:=by
   rcases B5.1 hf with h0|h0
   · rcases B5.1 h0 with h1|h1
     · exact h1
     exfalso;cases hop:io.op<;>rw [hop] at h1<;>simp [isCallI] at h1
     rw [hop] at hr;simp only [IOp.ev] at hr;split at hr
     · cases hr
     · split at hr
       · cases hr
       split at hr<;>cases hr
     cases hr
   exfalso;cases hop:io.op<;>rw [hop] at h0<;>first| (cases h0;done) |skip
   rw [hop] at hr;simp only [IOp.ev] at hr;split at hr
   · split at hr<;>cases hr
   cases hr
  rcases hg with hg| ⟨d,b,hg,hv⟩
  · exact z8S hg hf' hr h.1 (hrec _ h.2)
  exact z4h hg hv hf' hr h.1 (hrec _ h.2)
 |call f args=>
  obtain ⟨hci,s,h1,h2,h3⟩:=h;exact j1E hg (fun H'=>j3p hci hr) h1 h2 h3
 |amb E s=>exact h.elim
 |new p s Hk so=>
  cases so with
  |row ty xs=>exact j4h hg h.1 hr h.2.1 h.2.2.1 (hrec _ h.2.2.2)
  |_=>exact h.elim
 |set s x so=>exact h.elim
 |setp p s x so=>exact h.elim
 |zld ag b off=>
  have hf':floatOk G (evT t) io.op=true:=by
   rcases B5.1 hf with h0|h0
   · rcases B5.1 h0 with h1|h1
     · exact h1
     exfalso;cases hop:io.op<;>rw [hop] at h1<;>simp [isCallI] at h1
     rw [hop] at hr;simp only [IOp.ev] at hr;split at hr
     · cases hr
     · split at hr
       · cases hr
       split at hr<;>cases hr
     cases hr
   exfalso;cases hop:io.op<;>rw [hop] at h0<;>first| (cases h0;done) |skip
   rw [hop] at hr;simp only [IOp.ev] at hr;split at hr
   · split at hr<;>cases hr
   cases hr
  obtain ⟨s,h1,h2⟩:=h;exact j3V hg (fun H'=>j3A hf' hr) h1 h2
 |zst n b off y=>exact h.elim
 |yld l args=>exact h.elim
 |pan s=>exact h.elim
 |none=>exact h.elim

theorem q0r(hm:P.follows .mixedOrders=true):∀ (n:Nat) (m:IM),run P AQ n m→SoundI P AQ m
 |0,_,h=>h
 |n+1,⟨k0,td,t,H⟩,h=>by
  have ih:=q0r hm n;unfold run at h;split at h
  · exact j3M h
  · split at h
    · exact j2H (ih _ h)
    · exact j4V (ih _ h)
    · split at h
      · exact j2J (by assumption) (fun e=>ih _ (h.1 e)) (fun e=>ih _ (h.2 e))
      exact h.elim
    · exact j4f (ih _ h)
    · exact h
    · split at h
      · exact j2N (by assumption) (ih _ h)
      exact z8H (by assumption) h
    · exact j4N h
    · exact h
    · exact j3R (ih _ h)
    · exact j3I (ih _ h)
    · exact h
    · exact j4K (ih _ h)
    exact q1N _ hm (ih _ h)
  · exact z6z (ih _ h)
  · exact j1H h
  · split at h
    · exact z7o (ih _ h)
    split at h
    · exact j5i (by assumption) (z7s ih h)
    split at h
    · exact z9O (by assumption) (by assumption) (fun e=>z7s ih (h.1 e)) (fun e=>ih _ (h.2 e))
    · exact z4J (by assumption) (by assumption) (ih _ h)
    exact h.elim
  split at h
  · exact j3N (ih _ h)
  rename_i fl io l;split at h
  · rename_i hg;split at h
    · exact q6U ih (.inl hg) h.1 h.2
    exact j0a (.inl hg) (z3n ih h)
  rename_i d b hg;split at h
  · rename_i v hv;have hio:{io with guard:=some (d,b)}=io:=by cases io;simp at hg;subst hg;rfl
    refine z9M hg hv (fun e=> ?_) (fun e=> ?_)
    · rw [hio];have h1:=h.1 e;split at h1
      · exact q6U ih (.inr ⟨d,b,hg,q1F hv⟩) h1.1 h1.2
      exact j0a (.inr ⟨d,b,hg,q1F hv⟩) (z3n ih h1)
    rw [hio];exact j2E hg (q1F hv) (ih _ (h.2 e))
  · exact z8h hg (by assumption) (ih _ h)
  exact h.elim
end Go.Sx
