/- A part of the proof: a symbolic executor over abstract values, and its soundness. -/
import Derived.Test.YtmapiojgmbgbgaaGreatDoorV1
import Derived.RangeFuncLeaves
import Derived.BigFrameIn
import Derived.Laws.IdiomCopy
import Derived.Laws.Cells
set_option linter.all false
namespace Go.Sx
open Go

abbrev Fw(r:Option Nat):Fence:={Fence.wide with round:=r}
theorem q4r(r:Option Nat)(f:FuncId):(Fw r).fn f:=trivial
theorem q3O{r:Option Nat}{n:Nat}{P:Program}{f:FuncId}{args:Array Value}{w:World}{R:Ending→World→Prop}(h:Calls P f args w R):CallsIn (Fw r) n P f args w R:=
 (callsIn_wide (n:=n)).2 h

def evT(tmps:List SV):Operand→SV
 |.tmp t=>tmps.getD t .any
 |.const v=>.raw v
 |.global g=>.raw (.pointer (some ⟨g,0,none⟩))
 |.func f=>.fn f [] []

theorem q2E{C:Cx}{tmps:List SV}{a:Act}(h:SV.denL C tmps a.tmps.toList)(x:Operand):(evT tmps x).den C (a.eval x):=by
 cases x with
 |tmp t=>
  simp only [evT,Act.eval];rcases AC t tmps.length with hl|hl
  · obtain ⟨v,hv,hd⟩:=q1B h (Ab hl);have e:a.tmps[t]?=some v:=by simpa using hv
    rw [Ad,Ab hl,Bs,e];exact hd
  rw [Ad,AJ hl];simp [SV.den]
 |const v=>simp [evT,Act.eval,SV.den]
 |global g=>simp [evT,Act.eval,SV.den]
 |func f=>simp only [evT,Act.eval,SV.den,SV.denL];exact ⟨[],[],rfl,rfl,rfl⟩

def putT(tmps:List SV):Option Tmp→SV→List SV
 |some d,s=>tmps.set d s
 |none,_=>tmps

theorem q6m{C:Cx}{tmps:List SV}{a:Act}(h:SV.denL C tmps a.tmps.toList)(d:Option Tmp){s:SV}{v:Value}(hs:s.den C v):SV.denL C (putT tmps d s) (a.put d v).tmps.toList:=by
 cases d with
 |none=>exact h
 |some d=>simp only [putT,Act.put,B4];exact q2p h hs

structure EnD extends En where
 base:List Deferred
instance:Coe EnD En:=⟨EnD.toEn⟩
class Ghost where
 inv0:EnD→Cx→List SObj→Prop
 fin:EnD→Cx→List SObj→List Deferred→Prop
 toFin0:∀ {E C H},TabE E.toEn C H→inv0 E C H→fin E C H E.base
 next0:∀ {E C C' H H'},Ext ⟨C,H⟩ C' H'→inv0 E C H→inv0 E C' H'
 same0:∀ {E C C' H H'},Wd C H→C'.w=C.w→(∀b,C.I b→C'.I b)→(∀b,C'.I b→C.I b∨OwnB C H b)→(∀b,OwnB C' H' b→OwnB C H b)→(∀n,0<E.C.n→H[0]?=some (.mark n)→H'[0]?=some (.mark n))→E.C.n≤C'.n→inv0 E C H→inv0 E C' H'
 rd:Option Nat→Prop:=fun _=>True
 rd0:rd none:=by trivial
def Ghost.inv[Ghost](E:EnD)(C:Cx)(H:List SObj):Prop:=TabE E.toEn C H∧Ghost.inv0 E C H
theorem Ghost.toFin[Ghost]{E:EnD}{C:Cx}{H:List SObj}(h:Ghost.inv E C H):Ghost.fin E C H E.base:=Ghost.toFin0 h.1 h.2
theorem Ghost.next[Ghost]{E:EnD}{C C':Cx}{H H':List SObj}(e:Ext ⟨C,H⟩ C' H')(h:Ghost.inv E C H):Ghost.inv E C' H':=⟨⟨h.1.tab.next e,h.1.old⟩,Ghost.next0 e h.2⟩
theorem Ghost.same[Ghost]{E:EnD}{C C':Cx}{H H':List SObj}(hw:Wd C H)(e:C'.w=C.w)(hi:∀b,C.I b→C'.I b)(hi':∀b,C'.I b→C.I b∨OwnB C H b)(ho:∀b,OwnB C' H' b→OwnB C H b)(hm:∀n,0<E.C.n→H[0]?=some (.mark n)→H'[0]?=some (.mark n))(hn:E.C.n≤C'.n)(h:Ghost.inv E C H):Ghost.inv E C' H':=
 ⟨⟨h.1.tab.sub e hi ho,h.1.old⟩,Ghost.same0 hw e hi hi' ho hm hn h.2⟩
instance (priority:=low) noGhost:Ghost where
 inv0:=fun _ _ _=>True
 fin:=fun E C H ds=>ds=E.base∧TabE E.toEn C H∧True
 toFin0:=fun ht _=>⟨rfl,ht,trivial⟩
 next0:=fun _ _=>trivial
 same0:=fun _ _ _ _ _ _ _ _=>trivial
variable [Ghost]

structure Stp (E:EnD) (C:Cx) (H:List SObj) (C':Cx) (H':List SObj):Prop where
 evo:Evo C C'
 ext:Ext E C H→Ext E C' H'
 inv:Ghost.inv E C H→Ghost.inv E C' H'
theorem Stp.of{E:EnD}{C C':Cx}{H H':List SObj}(h:Ext ⟨C,H⟩ C' H'):Stp E C H C' H':=⟨h.evo,fun k=>k.trans h,Ghost.next h⟩
theorem Stp.trans{E:EnD}{A B C:Cx}{H H' H'':List SObj}(h:Stp E A H B H')(k:Stp E B H' C H''):Stp E A H C H'':=⟨h.evo.trans k.evo,fun x=>k.ext (h.ext x),fun x=>k.inv (h.inv x)⟩

def OpV(P:Program)(o:Oper)(ev:Operand→SV)(H:List SObj)(K:Out→List SObj→Prop):Prop:=
 ∀ (E:EnD) (C:Cx) (r:Option Nat) (n:Nat) (a:Act) (next:Act→World→Prop) (Q:Exit→Act→World→Prop),
  Wd C H→Ghost.inv E C H→(∀x∈o.op.operands,(ev x).den C (a.eval x))→
  (∀s v H' C',K (.ret s) H'→Wd C' H'→Stp E C H C' H'→s.den C' v→next (a.put o.dst v) C'.w)→
  (∀s v H' C',K (.pan s) H'→Wd C' H'→Stp E C H C' H'→s.den C' v→Q (.panic [{v,recovered:=false}]) a C'.w)→
  o.wpIn (Fw r) n P a C.w next Q

theorem OpV.mono{P:Program}{o:Oper}{ev:Operand→SV}{H:List SObj}{K K':Out→List SObj→Prop}(h:OpV P o ev H K)(hk:∀o H',K o H'→K' o H'):OpV P o ev H K':=
 fun E C r n a next Q hw hg hv h1 h2=>h E C r n a next Q hw hg hv (fun s v H' C' k=>h1 s v H' C' (hk _ _ k)) (fun s v H' C' k=>h2 s v H' C' (hk _ _ k))

theorem OpV.congr{P:Program}{o:Oper}{ev ev':Operand→SV}{H:List SObj}{K:Out→List SObj→Prop}(h:OpV P o ev H K)(he:∀x∈o.op.operands,ev' x=ev x):OpV P o ev' H K:=
 fun E C r n a next Q hw hg hv h1 h2=>h E C r n a next Q hw hg (fun x hx=>he x hx▸hv x hx) h1 h2

def VCallG(P:Program)(f:FuncId)(args:List SV)(H:List SObj)(K:Out→List SObj→Prop):Prop:=
 ∀ (E:EnD) (C:Cx) (vs:List Value),Wd C H→Ghost.inv E C H→SV.denL C args vs→
  Calls P f vs.toArray C.w fun e w'=>∃o H' C',K o H'∧C'.w=w'∧Wd C' H'∧Stp E C H C' H'∧outDen C' o e
theorem VCall.g{P:Program}{f:FuncId}{args:List SV}{H:List SObj}{K:Out→List SObj→Prop}(h:VCall P f args H K):VCallG P f args H K:=
 fun _ C vs hw hg hv=>(h C vs hw hg.1.tab hv).mono fun _ _ ⟨o,H',C',k,e,w,x,r⟩=>⟨o,H',C',k,e,w,.of x,r⟩
theorem VCallG.mono{P:Program}{f:FuncId}{args:List SV}{H:List SObj}{K K':Out→List SObj→Prop}(h:VCallG P f args H K)(hk:∀o H',K o H'→K' o H'):VCallG P f args H K':=
 fun E C vs hw hg hv=>(h E C vs hw hg hv).mono fun _ _ ⟨o,H',C',k,r⟩=>⟨o,H',C',hk _ _ k,r⟩

theorem OpV.dst{P:Program}{o:Oper}{ev:Operand→SV}{H:List SObj}{K:Out→List SObj→Prop}(h:OpV P o ev H K):OpV P o ev H K:=h

inductive It where
 |code (c:Code)
 |ops (all:Array Oper) (l:List Nat)
 |any (all:Array Oper) (listed:Array Bool) (fuel:Nat) (G:List Nat)
 |blk (id:Nat)
 |stop (Φ:List SV→List SObj→Prop)

structure M where
 k0:Nat
 todo:List It
 tmps:List SV
 heap:List SObj

inductive Ex where
 |normal|ret|exit (id:Nat) |pan (v:SV)

def markD(D:Nat):Deferred:={target:=.collected D,args:= #[]}
abbrev DefOk(E:EnD)(C:Cx)(H:List SObj)(ds:List Deferred):Prop:=ds=E.base∧Ghost.inv E C H
theorem DefOk.next{E:EnD}{C C':Cx}{H H':List SObj}{ds:List Deferred}(e:Ext ⟨C,H⟩ C' H')(h:DefOk E C H ds):DefOk E C' H' ds:=⟨h.1,Ghost.next e h.2⟩
theorem DefOk.stp{E:EnD}{C C':Cx}{H H':List SObj}{ds:List Deferred}(e:Stp E C H C' H')(h:DefOk E C H ds):DefOk E C' H' ds:=⟨h.1,e.inv h.2⟩
abbrev DefFin(E:EnD)(C:Cx)(H:List SObj)(ds:List Deferred):Prop:=Ghost.fin E C H ds
theorem DefOk.fin{E:EnD}{C:Cx}{H:List SObj}{ds:List Deferred}(h:DefOk E C H ds):DefFin E C H ds:=by rw [h.1];exact Ghost.toFin h.2

structure DenG (g:EnD→Cx→List SObj→List Deferred→Prop) (E:EnD) (C:Cx) (tmps:List SV) (H:List SObj) (a:Act):Prop where
 wd:Wd C H
 ext:Ext E C H
 defs:g E C H a.defers
 tmps:SV.denL C tmps a.tmps.toList
abbrev Den(E:EnD)(C:Cx)(tmps:List SV)(H:List SObj)(a:Act):Prop:=DenG DefOk E C tmps H a
abbrev DenF(E:EnD)(C:Cx)(tmps:List SV)(H:List SObj)(a:Act):Prop:=DenG Ghost.fin E C tmps H a
theorem Den.fin{E:EnD}{C:Cx}{tmps:List SV}{H:List SObj}{a:Act}(h:Den E C tmps H a):DenF E C tmps H a:=⟨h.wd,h.ext,DefOk.fin h.defs,h.tmps⟩

def conc(E:EnD)(AQ:Ex→List SV→List SObj→Prop):Exit→Act→World→Prop
 |.normal,a,w=>∃C t H,AQ .normal t H∧C.w=w∧DenF E C t H a
 |.ret,a,w=>∃C t H,AQ .ret t H∧C.w=w∧DenF E C t H a
 |.exit id,a,w=>∃C t H,AQ (.exit id) t H∧C.w=w∧DenF E C t H a
 |.panic ch,a,w=>∃C t H s v,AQ (.pan s) t H∧ch= [{v,recovered:=false}]∧s.den C v∧C.w=w∧Wd C H∧Ext E C H∧DefFin E C H a.defers∧(t= []∨SV.denL C t a.tmps.toList)
 |_,_,_=>False

mutual
def wpT(F:Fence)(n:Nat)(P:Program)(E:EnD)(Q:Exit→Act→World→Prop):List It→Act→World→Prop
 | [],a,w=>Q .normal a w
 |.code c :: k,a,w=>c.wpIn F n P (fun e a w=>match e with
  |.normal=>wpT F n P E Q k a w
  |.exit id=>exitT F n P E Q id k a w
  |e=>Q e a w) a w
 |.ops all l :: k,a,w=>wpOpsIn F n P all (fun e a w=>match e with
  |.normal=>wpT F n P E Q k a w
  |.exit id=>exitT F n P E Q id k a w
  |e=>Q e a w) l a w
 |.any all listed fuel _ :: k,a,w=>wpAnyIn F n P .any all (fun e a w=>match e with
  |.normal=>wpT F n P E Q k a w
  |.exit id=>exitT F n P E Q id k a w
  |e=>Q e a w) fuel listed a w
 |.blk _ :: k,a,w=>wpT F n P E Q k a w
 |.stop Φ :: _,a,w=>∃C t H,Φ t H∧C.w=w∧Den E C t H a
def exitT(F:Fence)(n:Nat)(P:Program)(E:EnD)(Q:Exit→Act→World→Prop)(id:Nat):List It→Act→World→Prop
 | [],a,w=>Q (.exit id) a w
 |.blk id' :: k,a,w=>if id'=id then wpT F n P E Q k a w else exitT F n P E Q id k a w
 |.code _ :: k,a,w=>exitT F n P E Q id k a w
 |.ops _ _ :: k,a,w=>exitT F n P E Q id k a w
 |.any _ _ _ _ :: k,a,w=>exitT F n P E Q id k a w
 |.stop _ :: k,a,w=>exitT F n P E Q id k a w
end

abbrev afterT(F:Fence)(n:Nat)(P:Program)(E:EnD)(Q:Exit→Act→World→Prop)(k:List It):Exit→Act→World→Prop:=fun e a w=>match e with
 |.normal=>wpT F n P E Q k a w
 |.exit id=>exitT F n P E Q id k a w
 |e=>Q e a w

def Fit(E:EnD)(r:Option Nat)(k0:Nat):Prop:=E.C.n≤k0∧Ghost.rd r
def Sound(P:Program)(AQ:Ex→List SV→List SObj→Prop)(m:M):Prop:=
 ∀ (E:EnD) (r:Option Nat) (n:Nat) (C:Cx) (a:Act),Fit E r m.k0→Den E C m.tmps m.heap a→wpT (Fw r) n P E (conc E AQ) m.todo a C.w

variable {P:Program} {AQ:Ex→List SV→List SObj→Prop} {k0:Nat} {k:List It} {t:List SV} {H:List SObj}

theorem z5z{x y:Code}(h:Sound P AQ ⟨k0,.code x :: .code y :: k,t,H⟩):Sound P AQ ⟨k0,.code (.seq x y) :: k,t,H⟩:=by
 intro E r n C a h0 hd;have h1:=h E r n C a h0 hd;simp only [wpT] at h1⊢;refine wpIn_seq (wpIn_mono h1 fun e a w hq=> ?_);cases e<;>exact hq

theorem z4C(h:Sound P AQ ⟨k0,k,t,H⟩):Sound P AQ ⟨k0,.code .skip :: k,t,H⟩:=fun E r n C a h0 hd=>by
 simp only [wpT];exact wpIn_skip (h E r n C a h0 hd)

theorem z5K(h:AQ .ret t H):Sound P AQ ⟨k0,.code .ret :: k,t,H⟩:=fun E r n C a h0 hd=>by
 simp only [wpT];exact wpIn_ret ⟨C,t,H,h,rfl,Den.fin hd⟩

theorem z5q(h:AQ .normal t H):Sound P AQ ⟨k0,[],t,H⟩:=fun _ _ _ C _ _ hd=>⟨C,t,H,h,rfl,Den.fin hd⟩

theorem z4L{Φ:List SV→List SObj→Prop}(h:Φ t H):Sound P AQ ⟨k0,.stop Φ :: k,t,H⟩:=fun E r n C a h0 hd=>by
 simp only [wpT];exact ⟨C,t,H,h,rfl,hd⟩

theorem z7b{id:Nat}(h:Sound P AQ ⟨k0,k,t,H⟩):Sound P AQ ⟨k0,.blk id :: k,t,H⟩:=fun E r n C a h0 hd=>by
 simp only [wpT];exact h E r n C a h0 hd

theorem z1n{id:Nat}{c:Code}(h:Sound P AQ ⟨k0,.code c :: .blk id :: k,t,H⟩):Sound P AQ ⟨k0,.code (.block id c) :: k,t,H⟩:=fun E r n C a h0 hd=>by
 have h1:=h E r n C a h0 hd;simp only [wpT] at h1⊢;refine wpIn_block (wpIn_mono h1 fun e a w hq=> ?_);cases e with
 |exit id'=>
  simp only [exitT] at hq;simp only [Exit.inBlock];by_cases hi:id=id'
  · subst hi;simpa using hq
  rw [if_neg hi] at hq;have hi':¬id'=id:=fun e=>hi e.symm;simpa [hi',hi] using hq
 |_=>exact hq

theorem q1U{b:Frame}{a:Act}{k:List Item}{cs:List Frame}{w:World}{c:Code}:step P (lone (b.atR a (.code (.scope c) :: k)) cs w)= .next (lone (b.atR a (.code c :: .inScope c :: k)) cs w):=
 step_lone_go (by simp [stepG,stepG.exec,Frame.atR])
theorem q8H{b:Frame}{a:Act}{k:List Item}{cs:List Frame}{w:World}{c:Code}:step P (lone (b.atR a (.inScope c :: k)) cs w)= .next (lone (b.atR a k) cs w):=
 step_lone_go (by simp [stepG,stepG.exec,Frame.atR])
theorem z4g{F:Fence}{n:Nat}{Q:Exit→Act→World→Prop}{a:Act}{w:World}{c:Code}(hQ:∀l a w,¬Q (.goto l) a w)(h:c.wpIn F n P Q a w):(Code.scope c).wpIn F n P Q a w:=by
 intro b k cs hro hb hr;have h0:(lone (b.atR a (.code (.scope c) :: k)) cs w).fenced P F:=fenced_calm hb hr rfl;obtain ⟨e,a₁,w₁,hq,harr⟩:=h b (.inScope c :: k) cs hro hb hr;cases e with
 |normal=>exact ⟨.normal,a₁,w₁,hq,.head h0 q1U (StepsIn.trans harr (.one (fenced_calm hb hr rfl) q8H))⟩
 |exit id'=>
  have hx:exitTo id' (.inScope c :: k)=exitTo id' k:=by simp [exitTo]
  exact ⟨.exit id',a₁,w₁,hq,fun k' hk=>.head h0 q1U (harr.1 k' (by rw [hx];exact hk)),
   fun hr' hk=>let ⟨k₁,h1,h2⟩:=harr.2 hr' (by rw [hx];exact hk);⟨k₁,h1,.head h0 q1U h2⟩⟩
 |goto l=>exact (hQ _ _ _ hq).elim
 |ret=>exact ⟨_,a₁,w₁,hq,.of_steps (.one h0 q1U) harr⟩
 |panic ch=>exact ⟨_,a₁,w₁,hq,.of_steps (.one h0 q1U) harr⟩
 |outgrown=>exact ⟨_,a₁,w₁,hq,.of_steps (.one h0 q1U) harr⟩
theorem z2a{c:Code}(h:Sound P AQ ⟨k0,.code c :: k,t,H⟩):Sound P AQ ⟨k0,.code (.scope c) :: k,t,H⟩:=fun E r n C a h0 hd=>by
 have h1:=h E r n C a h0 hd;simp only [wpT] at h1⊢;exact z4g (fun l a w hh=>hh.elim) h1
theorem z2q{l:Nat}(h:Sound P AQ ⟨k0,k,t,H⟩):Sound P AQ ⟨k0,.code (.label l) :: k,t,H⟩:=fun E r n C a h0 hd=>by
 simp only [wpT];exact wpIn_label (h E r n C a h0 hd)

def exitTo'(id:Nat):List It→Option (List It)
 | []=>none
 |.blk id' :: k=>if id'=id then some k else exitTo' id k
 |_ :: k=>exitTo' id k

theorem q3n{F:Fence}{n:Nat}{E:EnD}{Q:Exit→Act→World→Prop}{id:Nat}{a:Act}{w:World}{k':List It}:∀ {k:List It},exitTo' id k=some k'→wpT F n P E Q k' a w→exitT F n P E Q id k a w
 | [],h,_=>by simp [exitTo'] at h
 |.blk id' :: k,h,hw=>by
  unfold exitTo' at h;rw [exitT];split at h
  · rw [if_pos (by assumption)];cases h;exact hw
  rw [if_neg (by assumption)];exact q3n h hw
 |.code _ :: k,h,hw=>by rw [exitT];exact q3n h hw
 |.ops _ _ :: k,h,hw=>by rw [exitT];exact q3n h hw
 |.any _ _ _ _ :: k,h,hw=>by rw [exitT];exact q3n h hw
 |.stop _ :: k,h,hw=>by rw [exitT];exact q3n h hw

theorem q2u{F:Fence}{n:Nat}{E:EnD}{Q:Exit→Act→World→Prop}{id:Nat}{a:Act}{w:World}:∀ {k:List It},exitTo' id k=none→Q (.exit id) a w→exitT F n P E Q id k a w
 | [],_,h=>h
 |.blk id' :: k,hk,h=>by
  unfold exitTo' at hk;rw [exitT];split at hk
  · cases hk
  rw [if_neg (by assumption)];exact q2u hk h
 |.code _ :: k,hk,h=>by rw [exitT];exact q2u hk h
 |.ops _ _ :: k,hk,h=>by rw [exitT];exact q2u hk h
 |.any _ _ _ _ :: k,hk,h=>by rw [exitT];exact q2u hk h
 |.stop _ :: k,hk,h=>by rw [exitT];exact q2u hk h
theorem z4H{id:Nat}{k':List It}(hk:exitTo' id k=some k')(h:Sound P AQ ⟨k0,k',t,H⟩):Sound P AQ ⟨k0,.code (.exit id) :: k,t,H⟩:=fun E r n C a h0 hd=>by
 simp only [wpT];exact wpIn_exit (q3n hk (h E r n C a h0 hd))

theorem z4d{c:Operand}{x y:Code}{b:Bool}(hc:evT t c= .raw (.bool b))(h1:b=true→Sound P AQ ⟨k0,.code x :: k,t,H⟩)(h2:b=false→Sound P AQ ⟨k0,.code y :: k,t,H⟩):
 Sound P AQ ⟨k0,.code (.cond c x y) :: k,t,H⟩:=fun E r n C a h0 hd=>by
 have he:=q2E hd.tmps c;rw [hc,SV.den] at he;have g1:=fun hb=>h1 hb E r n C a h0 hd;have g2:=fun hb=>h2 hb E r n C a h0 hd;simp only [wpT] at g1 g2⊢;exact wpIn_cond_split he g1 g2

def SV.le:SV→SV→Prop:=fun s s'=>∀C v,s.den C v→s'.den C v
theorem SV.le_refl(s:SV):SV.le s s:=fun _ _ h=>h
theorem SV.le_any(s:SV):SV.le s .any:=fun _ _ _=>by rw [SV.den];trivial
def leL:List SV→List SV→Prop
 | [],[]=>True
 |s :: l,s' :: l'=>SV.le s s'∧leL l l'
 |_,_=>False
theorem q2K{C:Cx}:∀ {l l':List SV} {vs:List Value},leL l l'→SV.denL C l vs→SV.denL C l' vs
 | [],[],_,_,h=>h
 |s :: l,s' :: l',_,hl,h=>by
  obtain ⟨v,us,rfl,h1,h2⟩:=q0c.1 h;exact q0c.2 ⟨v,us,rfl,hl.1 C v h1,q2K hl.2 h2⟩
 | [],_ :: _,_,hl,_=>hl.elim
 |_ :: _,[],_,hl,_=>hl.elim

theorem q1a{F:Fence}{n:Nat}{Q:Exit→Act→World→Prop}{a:Act}{w:World}{c:Code}(I:Nat→Act→World→Prop)(n₀:Nat)(h₀:I n₀ a w)
 (round:∀m a w,I m a w→c.wpIn F n P (Exit.then (fun a' w'=>∃m',m'<m∧I m' a' w') Q) a w):(Code.loop c).wpIn F n P Q a w:=by
 refine wpIn_loop (fun a w=>∃m,I m a w) (fun a w=>leastOf (fun m=>I m a w)) ⟨n₀,h₀⟩ ?_;intro a w hI;refine wpIn_mono (round _ a w (leastOf_spec hI).1) ?_;intro e a' w' hq;cases e with
 |normal=>
  obtain ⟨n',hlt,hI'⟩:=hq;exact show (∃n,I n a' w')∧leastOf (fun n=>I n a' w') <leastOf (fun n=>I n a w) from ⟨⟨n',hI'⟩,Nat.lt_of_le_of_lt ((leastOf_spec ⟨n',hI'⟩).2 n' hI') hlt⟩
 |exit id=>exact hq
 |goto l=>exact hq
 |ret=>exact hq
 |panic ch=>exact hq
 |outgrown=>exact hq

theorem z1g{id:Nat}{all:Array Oper}(h:Sound P AQ ⟨k0,.ops all (List.range all.size) :: k,t,H⟩):Sound P AQ ⟨k0,.code (.region id all false) :: k,t,H⟩:=fun E r n C a h0 hd=>by
 have h1:=h E r n C a h0 hd;simp only [wpT] at h1⊢;exact wpIn_region h1

theorem q9N{all:Array Oper}(h:Sound P AQ ⟨k0,k,t,H⟩):Sound P AQ ⟨k0,.ops all [] :: k,t,H⟩:=fun E r n C a h0 hd=>by
 have h1:=h E r n C a h0 hd;simp only [wpT,wpOpsIn];exact h1

def wantedT(all:Array Oper)(t:List SV)(o:Oper):Option Bool:=
 match o.guard with
 |none=>some true
 |some (j,want)=>match (all[j]?).bind (·.dst) with
  |some d=>match t.getD d .any with
   |.raw (.bool b)=>some (b==want)
   |.raw (.tuple _)=>some false
   |_=>none
  |none=>none

theorem q1V{C:Cx}{all:Array Oper}{a:Act}{o:Oper}{b:Bool}(h:SV.denL C t a.tmps.toList)(hw:wantedT all t o=some b):Region.wanted o (yielded all a.tmps)=b:=by
 unfold wantedT at hw;unfold Region.wanted;split at hw
 · rename_i hg;rw [hg];cases hw;rfl
 rename_i j want hg;rw [hg];split at hw
 · rename_i d hdst;split at hw
   · rename_i b' hb;cases hw;have hd:=q2E h (.tmp d);simp only [evT] at hd;rw [hb,SV.den] at hd;have hlt:d<t.length:=by
      rcases AC d t.length with h'|h'
      · exact h'
      rw [Ad,AJ h'] at hb;simp at hb
     have hlt':d<a.tmps.size:=by
      have h2:a.tmps.toList.length=t.length:=q0B h;rw [Av] at h2;rw [h2];exact hlt
     have hv:a.tmps[d]?=some (.bool b'):=by
      simp only [Act.eval] at hd;rw [Bs,Bx hlt'] at hd;rw [Bx hlt'];simpa using hd
     simp only [yielded,hdst,CQ,hv];cases b'<;>cases want<;>rfl
   · rename_i vs hb;cases hw;have hd:=q2E h (.tmp d);simp only [evT] at hd;rw [hb,SV.den] at hd;simp only [Act.eval] at hd;have hv:∀b,a.tmps[d]?≠some (.bool b):=fun b e=>by
      rw [Bs,e] at hd;cases hd
     simp only [yielded,hdst,CQ];cases want<;>rfl
   cases hw
 cases hw

theorem q3Z{E:EnD}{C C':Cx}{H':List SObj}{a:Act}{d:Option Tmp}{s:SV}{v:Value}(hd:Den E C t H a)(hw:Wd C' H')(hx:Stp E C H C' H')(hs:s.den C' v):Den E C' (putT t d s) H' (a.put d v) where
 wd:=hw
 ext:=hx.ext hd.ext
 defs:=by
  have:(a.put d v).defers=a.defers:=by cases d<;>rfl
  rw [this];exact DefOk.stp hx hd.defs
 tmps:=q6m (q0f hx.evo hd.tmps) d hs

theorem q9u{all:Array Oper}{i:Nat}{l:List Nat}{o:Oper}(ho:all[i]?=some o)(hw:wantedT all t o=some true)
 (h:OpV P o (evT t) H fun
  |.ret s,H'=>Sound P AQ ⟨k0,.ops all l :: k,putT t o.dst s,H'⟩
  |.pan s,H'=>AQ (.pan s) t H'):Sound P AQ ⟨k0,.ops all (i :: l) :: k,t,H⟩:=fun E r n C a h0 hd=>by
 simp only [wpT,wpOpsIn,ho];rw [if_pos (q1V hd.tmps hw)];refine h E C r n a _ _ hd.wd hd.defs.2 (fun x _=>q2E hd.tmps x) ?_ ?_
 · intro s v H' C' hk hw' hx hs;have:=hk E r n C' (a.put o.dst v) h0 (q3Z hd hw' hx hs);simp only [wpT] at this;exact this
 intro s v H' C' hk hw' hx hs;exact ⟨C',t,H',s,v,hk,rfl,hs,rfl,hw',hx.ext hd.ext,(DefOk.stp hx hd.defs).fin,.inr (q0f hx.evo hd.tmps)⟩

theorem q5d{all:Array Oper}{i:Nat}{l:List Nat}{o:Oper}(ho:all[i]?=some o)(hw:wantedT all t o=some false)
 (h:Sound P AQ ⟨k0,.ops all l :: k,putT t o.dst (.raw (.tuple #[])),H⟩):Sound P AQ ⟨k0,.ops all (i :: l) :: k,t,H⟩:=fun E r n C a h0 hd=>by
 simp only [wpT,wpOpsIn,ho];rw [if_neg (by rw [q1V hd.tmps hw];simp)]
 refine ⟨fun f _=>q4r r f,?_⟩;have:=h E r n C (a.put o.dst undef) h0 (q3Z hd hd.wd (.of (Ext.refl _ _)) (by rw [SV.den];rfl))
 simp only [wpT] at this;exact this

end Go.Sx
namespace Go.Sx
open Go

def SameG(G:List Nat)(H H':List SObj):Prop:=∀h∈G,H'[h]?=H[h]?
theorem SameG.refl(G:List Nat)(H:List SObj):SameG G H H:=fun _ _=>rfl
theorem SameG.trans{G:List Nat}{A B C:List SObj}(h:SameG G A B)(k:SameG G B C):SameG G A C:=fun x hx=>(k x hx).trans (h x hx)

variable [Ghost] {P:Program} {AQ:Ex→List SV→List SObj→Prop} {k0:Nat} {k:List It} {t:List SV} {H:List SObj} {all:Array Oper} {G:List Nat}

def OpStep(P:Program)(AQ:Ex→List SV→List SObj→Prop)(all:Array Oper)(i:Nat)(t:List SV)(H:List SObj)(K:List SV→List SObj→Prop):Prop:=
 ∃o,all[i]?=some o∧((wantedT all t o=some true∧OpV P o (evT t) H fun
  |.ret s,H'=>K (putT t o.dst s) H'
  |.pan s,H'=>AQ (.pan s) [] H')∨
  (wantedT all t o=some false∧K (putT t o.dst (.raw (.tuple #[]))) H))

theorem OpStep.mono{i:Nat}{K K':List SV→List SObj→Prop}(h:OpStep P AQ all i t H K)(hk:∀t H,K t H→K' t H):OpStep P AQ all i t H K':=by
 obtain ⟨o,ho,h⟩:=h;refine ⟨o,ho,orMap h (fun ⟨h1,h2⟩=>⟨h1,h2.mono fun x H' hx=> ?_⟩) (fun ⟨h1,h2⟩=>⟨h1,hk _ _ h2⟩)⟩;cases x with
 |ret s=>exact hk _ _ hx
 |pan s=>exact hx

def gk(o:Oper):Bool:=match o.op with
 |.store .. =>false
 |.call {callee:=.builtin .append,..}=>false
 |.call {callee:=.builtin .copy,..}=>false
 |.mapUpdate .. =>false
 |.insert .. =>false
 |_=>true
def strictP:List Nat→List Nat
 | []=>[]
 |h :: G=>if h==999999 then G else strictP G
theorem q2z:∀ {G:List Nat} {h:Nat},h∈strictP G→h∈G
 | [],_,hm=>by simp [strictP] at hm
 |h' :: G,h,hm=>by
  unfold strictP at hm;split at hm
  · exact AW _ hm
  exact AW _ (q2z hm)
theorem SameG.strict{G:List Nat}{H H':List SObj}(h:SameG G H H'):SameG (strictP G) H H':=fun x hx=>h x (q2z hx)
def gsel(all:Array Oper)(i:Nat)(G:List Nat):List Nat:=match all[i]? with
 |some o=>if gk o then G else strictP G
 |none=>G

def AnyV(P:Program)(AQ:Ex→List SV→List SObj→Prop)(k0:Nat)(k:List It)(all:Array Oper)(G:List Nat):Nat→Array Bool→List SV→List SObj→Prop
 |0,listed,t,H=>Region.ready .any all listed= []∧Sound P AQ ⟨k0,k,t,H⟩
 |fuel+1,listed,t,H=>
  (Region.ready .any all listed= []→Sound P AQ ⟨k0,k,t,H⟩)∧
  ∀i∈Region.ready .any all listed,OpStep P AQ all i t H fun t' H'=>SameG (gsel all i G) H H'∧AnyV P AQ k0 k all G fuel (listed.setIfInBounds i true) t' H'

theorem q5F:∀ (fuel:Nat) (listed:Array Bool) (t:List SV) (H:List SObj),AnyV P AQ k0 k all G fuel listed t H→
 ∀ (E:EnD) (r:Option Nat) (n:Nat) (C:Cx) (a:Act),Fit E r k0→Den E C t H a→wpAnyIn (Fw r) n P .any all (afterT (Fw r) n P E (conc E AQ) k) fuel listed a C.w
 |0,_,_,_,h,E,r,n,C,a,h0,hd=>⟨h.1,h.2 E r n C a h0 hd⟩
 |fuel+1,listed,t,H,h,E,r,n,C,a,h0,hd=>by
  refine ⟨fun h9=>h.1 h9 E r n C a h0 hd,fun i hi=> ?_⟩;obtain ⟨o,ho,h1⟩:=h.2 i hi;unfold wpOpIn;simp only [ho];rcases h1 with ⟨hw,hop⟩ | ⟨hw,hk⟩
  · rw [if_pos (q1V hd.tmps hw)];refine hop E C r n a _ _ hd.wd hd.defs.2 (fun x _=>q2E hd.tmps x) ?_ ?_
    · intro s v H' C' hk hw' hx hs;exact q5F fuel _ _ _ hk.2 E r n C' _ h0 (q3Z hd hw' hx hs)
    intro s v H' C' hk hw' hx hs;exact ⟨C',[],H',s,v,hk,rfl,hs,rfl,hw',hx.ext hd.ext,(DefOk.stp hx hd.defs).fin,.inl rfl⟩
  rw [if_neg (by rw [q1V hd.tmps hw];simp)]
  exact ⟨fun f _=>q4r r f,q5F fuel _ _ _ hk.2 E r n C _ h0 (q3Z hd hd.wd (.of (Ext.refl _ _)) (by rw [SV.den];rfl))⟩

def Cx.drew(C:Cx):Cx:={C with w:={C.w with drawn:=C.w.drawn+1}}
theorem q2q(C:Cx):Evo C C.drew:=⟨Ae _,fun _ _=>rfl,fun _ hb=>⟨hb,rfl⟩,fun _ _ h=>h⟩
theorem q3m{C:Cx}(h:Wd C H):Wd C.drew H:=
 ⟨h.n,fun x o ho=>q0C (C:=C) (C':=C.drew) (fun _ hb=>⟨hb,rfl⟩) x rfl (fun _ _=>rfl) (q0f (q2q C)) (h.obj x o ho),h.own,h.inj,h.imm⟩
theorem q2l(C:Cx)(H:List SObj):Ext ⟨C,H⟩ C.drew H:=⟨q2q C,Ae _,rfl,rfl,rfl,fun _ _ _=>rfl,fun _ h=>.inl h,fun _ h=>.inr h,fun _ _ h=>h⟩

theorem z4l{id:Nat}(G:List Nat)(hm:P.follows .mixedOrders=true)(h:AnyV P AQ k0 k all G all.size (Array.replicate all.size false) t H):Sound P AQ ⟨k0,.code (.region id all true) :: k,t,H⟩:=fun E r n C a h0 hd=>by
 simp only [wpT];have hd':Den E C.drew t H a:=⟨q3m hd.wd,hd.ext.trans (q2l C H),DefOk.next (q2l C H) hd.defs,q0f (q2q C) hd.tmps⟩
 exact wpIn_region_any hm (q5F _ _ _ _ h E r n C.drew a h0 hd')

def PureV(P:Program)(all:Array Oper)(G:List Nat)(o:Oper)(t:List SV)(H:List SObj)(s:SV):Prop:=
 (wantedT all t o=some true∧∀H',SameG G H H'→∀K:Out→List SObj→Prop,K (.ret s) H'→OpV P o (evT t) H' K)∨(wantedT all t o=some false∧s=(.raw (.tuple #[])))

theorem j0K{d:Option Tmp}{s:SV}{x:Operand}(h:∀e,d=some e→x≠ .tmp e):evT (putT t d s) x=evT t x:=by
 cases d with
 |none=>rfl
 |some d=>
  cases x with
  |tmp e=>
   have hne:d≠e:=fun he=>h d rfl (he▸rfl);simp [evT,putT,Ad,Aq hne]
  |_=>rfl

theorem z2Z{o:Oper}{d:Option Tmp}{s:SV}(h:∀e,d=some e→e ∉ o.looksAt all):∀x∈o.op.operands,evT (putT t d s) x=evT t x:=fun x hx=>
 j0K fun e he hxe=>h e he (by
  subst hxe
  exact List.mem_append_left _ (List.mem_filterMap.2 ⟨.tmp e,by simpa using hx,rfl⟩))

theorem q7m{o:Oper}{d:Option Tmp}{s:SV}(h:∀e,d=some e→e ∉ o.looksAt all):wantedT all (putT t d s) o=wantedT all t o:=by
 unfold wantedT;cases hg:o.guard with
 |none=>rfl
 |some g=>
  obtain ⟨j,want⟩:=g;simp only;cases hdst:(all[j]?).bind (·.dst) with
  |none=>rfl
  |some e=>
   simp only
   have hne:∀e',d=some e'→e'≠e:=fun e' he' heq=>h e' he' (by
    unfold Oper.looksAt;refine List.mem_append_right _ ?_;rw [hg];simp only [hdst,Option.toList_some,BJ]
    exact heq)
   cases d with
   |none=>rfl
   |some d=>
    have:=hne d rfl;simp [putT,Ad,Aq this]

theorem z0O{x y:Option Tmp}(v u:SV)(h:∀d,x=some d→y≠some d):putT (putT t x v) y u=putT (putT t y u) x v:=by
 cases x with
 |none=>rfl
 |some d=>
  cases y with
  |none=>rfl
  |some e=>
   have hne:d≠e:=fun he=>h d rfl (he▸rfl);simp only [putT];exact List.set_comm _ _ hne

theorem PureV.of_put{oi oj:Oper}{s u:SV}{H':List SObj}(hp:PureV P all G oi t H s)(h3:∀d,oj.dst=some d→d ∉ oi.looksAt all)(hs:SameG G H H'):PureV P all G oi (putT t oj.dst u) H' s:=by
 unfold PureV at*;rw [q7m h3];exact orMap hp (fun ⟨h1,h2⟩=>⟨h1,fun H'' hs' K hk=>(h2 H'' (hs.trans hs') K hk).congr (z2Z h3)⟩) id

theorem PureV.step{oi:Oper}{i:Nat}{s:SV}{K:List SV→List SObj→Prop}(hi:all[i]?=some oi)(hp:PureV P all G oi t H s)(h:K (putT t oi.dst s) H):OpStep P AQ all i t H K:=by
 refine ⟨oi,hi,?_⟩;rcases hp with ⟨hw,hp⟩ | ⟨hw,rfl⟩
 · exact .inl ⟨hw,hp H (SameG.refl _ _) _ h⟩
 exact .inr ⟨hw,h⟩

theorem OpStep.comm{oi:Oper}{j:Nat}{s:SV}{G':List Nat}(hap:∀oj,all[j]?=some oj→oi.apart all oj=true)(hsub:∀H H',SameG (gsel all j G) H H'→SameG G' H H')(hp:PureV P all G' oi t H s){K:List SV→List SObj→Prop}
 (h:OpStep P AQ all j (putT t oi.dst s) H fun t' H'=>SameG (gsel all j G) H H'∧K t' H'):
 OpStep P AQ all j t H fun t' H'=>SameG (gsel all j G) H H'∧PureV P all G' oi t' H' s∧K (putT t' oi.dst s) H':=by
 obtain ⟨oj,hoj,h⟩:=h;obtain ⟨h1,h2,h3⟩:=Oper.apart_spec (hap oj hoj);refine ⟨oj,hoj,?_⟩;rw [q7m h1] at h;rcases h with ⟨hw,hop⟩ | ⟨hw,hs,hk⟩
 · refine .inl ⟨hw,(hop.congr (fun x hx=>(z2Z h1 x hx).symm)).mono fun x H' hx=> ?_⟩;cases x with
   |ret u=>exact ⟨hx.1,hp.of_put h3 (hsub _ _ hx.1),by rw [←z0O s u h2];exact hx.2⟩
   |pan u=>exact hx
 exact .inr ⟨hw,hs,hp.of_put h3 (hsub _ _ hs),by rw [←z0O s (.raw (.tuple #[])) h2];exact hk⟩

def reaches(all:Array Oper):Nat→Nat→Nat→Bool
 |0,_,_=>false
 |n+1,j,i=>match all[j]? with
  |some o=>o.after.toList.any fun e=>Region.binds .any e&& (e.on==i||reaches all n e.on i)
  |none=>false
def Closed(all:Array Oper)(listed:Array Bool):Prop:=∀m o,all[m]?=some o→listed.getD m false=true→∀e∈o.after,Region.binds .any e=true→listed.getD e.on false=true
theorem q7X{listed:Array Bool}{i:Nat}(hc:Closed all listed)(hi:listed.getD i false=false):∀ (n m:Nat),listed.getD m false=true→reaches all n m i=false
 |0,_,_=>rfl
 |n+1,m,hm=>by
  unfold reaches;cases ho:all[m]? with
  |none=>rfl
  |some o=>
   simp only;rw [List.any_eq_false];intro e he hb;simp only [Aj,BW,beq_iff_eq] at hb;have hl:=hc m o ho hm e (by simpa using he) hb.1
   rcases hb.2 with h1|h1
   · rw [h1,hi] at hl;cases hl
   rw [q7X hc hi n e.on hl] at h1;cases h1
theorem q9e{listed:Array Bool}{i j:Nat}{oj:Oper}(hc:Closed all listed)(hi:listed.getD i false=false)(hoj:all[j]?=some oj)(hall:∀e∈oj.after,Region.binds .any e=true→listed.getD e.on false=true)(n:Nat):reaches all n j i=false:=by
 cases n with
 |zero=>rfl
 |succ n=>
  unfold reaches;rw [hoj];simp only;rw [List.any_eq_false];intro e he hb;simp only [Aj,BW,beq_iff_eq] at hb;have hl:=hall e (by simpa using he) hb.1
  rcases hb.2 with h1|h1
  · rw [h1,hi] at hl;cases hl
  rw [q7X hc hi n e.on hl] at h1;cases h1
theorem Closed.set{listed:Array Bool}{j:Nat}{oj:Oper}(hc:Closed all listed)(hoj:all[j]?=some oj)(hall:∀e∈oj.after,Region.binds .any e=true→listed.getD e.on false=true):Closed all (listed.setIfInBounds j true):=by
 have mono:∀x,listed.getD x false=true→(listed.setIfInBounds j true).getD x false=true:=fun x hx=>by
  by_cases e:j=x
  · subst e;rcases AC j listed.size with h1|h1
    · simp [h1]
    simp [Bu h1] at hx
  rw [getD_set_ne false e];exact hx
 intro m o ho hm e he hb;by_cases hmj:j=m
 · subst hmj;rw [hoj] at ho;cases ho;exact mono _ (hall e he hb)
 rw [getD_set_ne false hmj] at hm;exact mono _ (hc m o ho hm e he hb)

theorem q5s{i N:Nat}{oi:Oper}{s:SV}{G':List Nat}(hi:all[i]?=some oi):
 ∀ (fuel:Nat) (listed:Array Bool) (t:List SV) (H:List SObj),
  (∀j oj,all[j]?=some oj→j≠i→listed.getD j true=false→(∀e∈oj.after,Region.binds .any e=true→e.on≠i)→oi.apart all oj=true∧(reaches all N j i=false→∀H H',SameG (gsel all j G) H H'→SameG G' H H'))→(Closed all listed∨G'= [])→
  i∈Region.ready .any all listed→PureV P all G' oi t H s→
  AnyV P AQ k0 k all G fuel (listed.setIfInBounds i true) (putT t oi.dst s) H→AnyV P AQ k0 k all G (fuel+1) listed t H:=by
 intro fuel;induction fuel with
 |zero=>
  intro listed t H _ _ hr hp h;refine ⟨fun h0=>(by rw [h0] at hr;cases hr),fun j hj=> ?_⟩
  by_cases hji:j=i
  · subst hji;exact hp.step hi ⟨SameG.refl _ _,h⟩
  have:=ready_mono hj hji;rw [h.1] at this;cases this
 |succ fuel ih=>
  intro listed t H hfree hcl hr hp h;refine ⟨fun h0=>(by rw [h0] at hr;cases hr),fun j hj=> ?_⟩
  by_cases hji:j=i
  · subst hji;exact hp.step hi ⟨SameG.refl _ _,h⟩
  have h1:=h.2 j (ready_mono hj hji);obtain ⟨hjun,oj,hoj,hall⟩:=mem_ready.1 hj;have hnot:∀e∈oj.after,Region.binds .any e=true→e.on≠i:=fun e he hb heq=>by
   have h1:=hall e he hb;have h0:=(mem_ready.1 hr).1;rw [heq] at h1;rcases AC i listed.size with h'|h'
   · simp [h'] at h0 h1;rw [h0] at h1;cases h1
   simp [Bu h'] at h1
  have hap:∀oj',all[j]?=some oj'→oi.apart all oj'=true:=fun oj' hoj'=>by
   rw [hoj] at hoj';cases hoj';exact (hfree j oj hoj hji hjun hnot).1
  have hiu:listed.getD i false=false:=by
   have h0:=(mem_ready.1 hr).1;rcases AC i listed.size with h'|h'
   · simp [h'] at h0⊢;exact h0
   simp [Bu h']
  have hsub:∀H H',SameG (gsel all j G) H H'→SameG G' H H':=by
   rcases hcl with hcl|rfl
   · exact (hfree j oj hoj hji hjun hnot).2 (q9e hcl hiu hoj (fun e he hb=>by have:=hall e he hb;simpa using this) N)
   exact fun _ _ _ _ hh=>by cases hh
  have h2:=OpStep.comm hap hsub hp h1;have hfree':∀k ok,all[k]?=some ok→k≠i→(listed.setIfInBounds j true).getD k true=false→
   (∀e∈ok.after,Region.binds .any e=true→e.on≠i)→oi.apart all ok=true∧(reaches all N k i=false→∀H H',SameG (gsel all k G) H H'→SameG G' H H'):=fun k ok hk hki hun hno=>by
   refine hfree k ok hk hki ?_ hno;by_cases hjk:j=k
   · subst hjk;exact hjun
   rw [getD_set_ne true hjk] at hun;exact hun
  refine h2.mono fun t' H' h3=>⟨h3.1,ih (listed.setIfInBounds j true) t' H' hfree' (orMap hcl (fun hc=>hc.set hoj (fun e he hb=>by have:=hall e he hb;simpa using this)) id) (ready_mono hr (Ne.symm hji)) h3.2.1 ?_⟩
  rw [Array.setIfInBounds_comm _ _ hji];exact h3.2.2

theorem q3x{i:Nat}{oi:Oper}{s:SV}{fuel:Nat}{listed:Array Bool}(hB:((Region.ready .any all listed).contains i&& Region.free .any all listed i)=true)(hi:all[i]?=some oi)
 (hp:PureV P all [] oi t H s)(h:AnyV P AQ k0 k all G fuel (listed.setIfInBounds i true) (putT t oi.dst s) H):AnyV P AQ k0 k all G (fuel+1) listed t H:=by
 rw [Aj] at hB;exact q5s (N:=0) (G':=[]) hi fuel listed t H (fun j oj h1 h2 h3 h4=>⟨Region.free_spec hi hB.2 j oj h1 h2 h3 h4,fun _ _ _ _ _ hh=>by cases hh⟩) (.inr rfl) (by simpa using hB.1) hp h

def closedB(all:Array Oper)(listed:Array Bool):Bool:=
 (List.range all.size).all fun m=> !listed.getD m false||match all[m]? with
  |some o=>o.after.toList.all fun e=> !Region.binds .any e||listed.getD e.on false
  |none=>true
theorem q7O{listed:Array Bool}(h:closedB all listed=true):Closed all listed:=by
 intro m o ho hm e he hb;simp only [closedB,Ba,Cq] at h;have h1:=h m (AA.1 ho).1;simp only [hm,Bool.not_true,Bool.false_or,ho,Ba] at h1;have h2:=h1 e (by simpa using he)
 simpa [hb] using h2
def ldFree(all:Array Oper)(listed:Array Bool)(i:Nat):Bool:=
 closedB all listed&& (List.range all.size).all fun j=>j==i||listed.getD j true||match all[j]? with
  |some oj=>reaches all all.size j i||gk oj
  |none=>true
theorem z1K{i:Nat}{listed:Array Bool}(h:ldFree all listed i=true)(j:Nat)(oj:Oper)(hj:all[j]?=some oj)(hne:j≠i)(hun:listed.getD j true=false)(hno:reaches all all.size j i=false):gsel all j G=G:=by
 simp only [ldFree,Aj,Ba,Cq] at h;have h1:=h.2 j (AA.1 hj).1;simp only [hj,BW,beq_iff_eq,hne,false_or,hun,Bd,hno] at h1;simp [gsel,hj,h1]

theorem z4v{i:Nat}{oi:Oper}{s:SV}{fuel:Nat}{listed:Array Bool}(hB:((Region.ready .any all listed).contains i&& Region.free .any all listed i)=true)(hL:ldFree all listed i=true)(hi:all[i]?=some oi)
 (hp:PureV P all G oi t H s)(h:AnyV P AQ k0 k all G fuel (listed.setIfInBounds i true) (putT t oi.dst s) H):AnyV P AQ k0 k all G (fuel+1) listed t H:=by
 rw [Aj] at hB;exact q5s (N:=all.size) (G':=G) hi fuel listed t H (fun j oj h1 h2 h3 h4=>⟨Region.free_spec hi hB.2 j oj h1 h2 h3 h4,fun hno _ _ hs=>by rwa [z1K hL j oj h1 h2 h3 hno] at hs⟩) (.inl (q7O (by simp only [ldFree,Aj] at hL;exact hL.1))) (by simpa using hB.1) hp h

theorem q8n{i:Nat}{oi:Oper}{s:SV}{fuel:Nat}{listed:Array Bool}(hB:((Region.ready .any all listed).contains i&& Region.free .any all listed i)=true)(hcl:closedB all listed=true)(hi:all[i]?=some oi)
 (hp:PureV P all (strictP G) oi t H s)(h:AnyV P AQ k0 k all G fuel (listed.setIfInBounds i true) (putT t oi.dst s) H):AnyV P AQ k0 k all G (fuel+1) listed t H:=by
 rw [Aj] at hB
 exact q5s (N:=0) (G':=strictP G) hi fuel listed t H (fun j oj h1 h2 h3 h4=>⟨Region.free_spec hi hB.2 j oj h1 h2 h3 h4,fun _ _ _ hs=>by
  unfold gsel at hs;rw [h1] at hs;simp only at hs;split at hs
  · exact hs.strict
  exact hs⟩) (.inl (q7O hcl)) (by simpa using hB.1) hp h

theorem z1u{i:Nat}{o:Oper}{fuel:Nat}{listed:Array Bool}(hB:(Region.ready .any all listed== [i])=true)(ho:all[i]?=some o)(hw:wantedT all t o=some true)
 (h:OpV P o (evT t) H fun
  |.ret s,H'=>SameG (gsel all i G) H H'∧AnyV P AQ k0 k all G fuel (listed.setIfInBounds i true) (putT t o.dst s) H'
  |.pan s,H'=>AQ (.pan s) [] H'):AnyV P AQ k0 k all G (fuel+1) listed t H:=by
 have hB':Region.ready .any all listed= [i]:=by simpa using hB
 refine ⟨fun h0=>(by rw [hB'] at h0;cases h0),fun j hj=> ?_⟩
 rw [hB'] at hj;obtain rfl:j=i:=by simpa using hj
 exact ⟨o,ho,.inl ⟨hw,h⟩⟩

theorem z8V{i:Nat}{o:Oper}{fuel:Nat}{listed:Array Bool}(hB:((Region.ready .any all listed).contains i&& Region.free .any all listed i)=true)(ho:all[i]?=some o)(hw:wantedT all t o=some false)
 (h:AnyV P AQ k0 k all G fuel (listed.setIfInBounds i true) (putT t o.dst (.raw (.tuple #[]))) H):AnyV P AQ k0 k all G (fuel+1) listed t H:=
 q3x hB ho (.inr ⟨hw,rfl⟩) h

theorem any_nil{fuel:Nat}{listed:Array Bool}(hB:(Region.ready .any all listed).isEmpty=true)(h:Sound P AQ ⟨k0,k,t,H⟩):AnyV P AQ k0 k all G fuel listed t H:=by
 have hB':Region.ready .any all listed= []:=by simpa using hB
 cases fuel with
 |zero=>exact ⟨hB',h⟩
 |succ fuel=>exact ⟨fun _=>h,fun i hi=>by rw [hB'] at hi;cases hi⟩
end Go.Sx
namespace Go.Sx
open Go

variable [Ghost] {P:Program} {o:Oper} {ev:Operand→SV} {H:List SObj} {K:Out→List SObj→Prop}

theorem z2Q(hnd:∀c,o.op≠ .defer c)
 (h:∀ (E:EnD) (C:Cx) (e:Operand→Value),Wd C H→Ghost.inv E C H→(∀x∈o.op.operands,(ev x).den C (e x))→∃s v H' C',K (.ret s) H'∧((execOp e o).run P C.w= .ok (.value v) C'.w∨((execOp e o).run P C.w= .ok .skip C'.w∧v=undef))∧Wd C' H'∧Stp E C H C' H'∧s.den C' v):
 OpV P o ev H K:=by
 intro E C r n a next Q hw hg hv h1 _
 obtain ⟨s,v,H',C',hk,hrun,hw',hx,hs⟩:=h E C a.eval hw hg hv;refine ⟨fun f _=>q4r r f,?_⟩;rw [Oper.semAt_eq _ _ _ hnd];rcases hrun with hrun| ⟨hrun,rfl⟩
 · rw [hrun];exact h1 s v H' C' hk hw' hx hs
 rw [hrun];exact h1 s _ H' C' hk hw' hx hs
theorem q0R(hnd:∀c,o.op≠ .defer c)
 (h:∀ (C:Cx) (e:Operand→Value),Wd C H→(∀x∈o.op.operands,(ev x).den C (e x))→∃s v H' C',K (.ret s) H'∧((execOp e o).run P C.w= .ok (.value v) C'.w∨((execOp e o).run P C.w= .ok .skip C'.w∧v=undef))∧Wd C' H'∧Ext ⟨C,H⟩ C' H'∧s.den C' v):
 OpV P o ev H K:=by
 intro E C r n a next Q hw _ hv h1 _
 obtain ⟨s,v,H',C',hk,hrun,hw',hx,hs⟩:=h C a.eval hw hv;refine ⟨fun f _=>q4r r f,?_⟩;rw [Oper.semAt_eq _ _ _ hnd];rcases hrun with hrun| ⟨hrun,rfl⟩
 · rw [hrun];exact h1 s v H' C' hk hw' (.of hx) hs
 rw [hrun];exact h1 s _ H' C' hk hw' (.of hx) hs

theorem q0i(hnd:∀c,o.op≠ .defer c){s:SV}
 (h:∀ (C:Cx) (e:Operand→Value),Wd C H→(∀x∈o.op.operands,(ev x).den C (e x))→∃v,(execOp e o).run P C.w= .ok (.value v) C.w∧s.den C v)(hk:K (.ret s) H):
 OpV P o ev H K:=
 q0R hnd fun C e hw hv=>by
  obtain ⟨v,h1,h2⟩:=h C e hw hv;exact ⟨s,v,H,C,hk,.inl h1,hw,Ext.refl _ _,h2⟩

def Cx.grow(C:Cx)(o:Obj):Cx:={ρ:=fun h=>if h=C.n then some C.w.heap.size else C.ρ h,n:=C.n+1,I:=C.I,w:=C.w.alloc o}

theorem q1x(w:World)(o:Obj){b:Nat}(h:b<w.heap.size):(w.alloc o).heap[b]?=w.heap[b]?:=by
 show (w.heap.push o)[b]?=_;rw [Array.getElem?_push,if_neg (by omega)]
theorem q1y(w:World)(o:Obj):(w.alloc o).heap[w.heap.size]?=some o:=by
 show (w.heap.push o)[w.heap.size]?=_;rw [Array.getElem?_push,if_pos rfl]
theorem q9s{w:World}{b m:Nat}(h:World.bsize w b=some m):b<w.heap.size:=by
 unfold World.bsize at h;rcases AC b w.heap.size with hl|hl
 · exact hl
 rw [Bu hl] at h;simp at h

theorem q6p{C:Cx}(hi:∀b,C.I b→b<C.w.heap.size)(o:Obj):Evo C (C.grow o) where
 n:=CL _
 ρ:=fun h hh=>by simp only [Cx.grow];rw [if_neg (by omega)]
 I:=fun b hb=>⟨hb,q1x _ _ (hi b hb)⟩
 sz:=fun b m hm=>by
  have:=q9s hm;unfold World.bsize at hm⊢;simp only [Cx.grow];rw [q1x _ _ this];exact hm

theorem q0t{α:Type}{H:List α}{x y:α}{h:Nat}(hh:(H++ [x])[h]?=some y):(h<H.length∧H[h]?=some y)∨(h=H.length∧y=x):=by
 rcases CM h H.length with hl|hl|hl
 · exact .inl ⟨hl,by rwa [Ag hl] at hh⟩
 · subst hl;rw [Ao (Ae _)] at hh;simp at hh;exact .inr ⟨rfl,hh.symm⟩
 rw [Ao (by omega),AJ (by simp;omega)] at hh;simp at hh

theorem q5u{C:Cx}(hw:Wd C H)(o:Obj)(so:SObj)(hs:objDen (C.grow o) C.n so):Wd (C.grow o) (H++ [so])∧Ext ⟨C,H⟩ (C.grow o) (H++ [so]):=by
 have he:=q6p hw.imm o;have hown:∀b,OwnB (C.grow o) (H++ [so]) b→OwnB C H b∨b=C.w.heap.size:=by
  rintro b ⟨h,x,hx,hl,hb⟩;rcases q0t hx with ⟨h1,h2⟩ | ⟨h1,h2⟩
  · refine .inl ⟨h,x,h2,hl,?_⟩;simp only [Cx.grow] at hb;rwa [if_neg (by rw [hw.n];omega)] at hb
  subst h1;simp only [Cx.grow] at hb;rw [if_pos hw.n.symm] at hb;exact .inr (Option.some.inj hb).symm
 have hgs:(C.grow o).w.heap.size=C.w.heap.size+1:=Array.size_push _;refine ⟨⟨?_,?_,?_,?_,?_⟩,⟨he,by rw [hgs];exact CL _,rfl,rfl,rfl,fun b hb _=>q1x _ _ hb,fun b hb=>.inl hb,fun b hb=> ?_,fun _ _ hn=>q3r hn⟩⟩
 · simp [Cx.grow,hw.n]
 · intro h x hx;rcases q0t hx with ⟨h1,h2⟩ | ⟨h1,h2⟩
   · by_cases hl:x.live=true
     · refine q0C he.I h (he.ρ h (by rw [hw.n];exact h1)) (fun b hb=>q1x _ _ (hw.own b ⟨h,x,h2,hl,hb⟩).2) (q0f he) (hw.obj h x h2)
     cases x<;>first|trivial|simp [SObj.live] at hl
   subst h2;rw [h1,←hw.n];exact hs
 · intro b hb;rcases hown b hb with h1|rfl
   · have:=hw.own b h1;exact ⟨this.1,by rw [hgs];omega⟩
   refine ⟨fun hi=>absurd (hw.imm _ hi) (by omega),by rw [hgs];omega⟩
 · intro h h' x x' b hx hx' hl hl' hb hb';rcases q0t hx with ⟨h1,h2⟩ | ⟨h1,h2⟩ <;>rcases q0t hx' with ⟨h1',h2'⟩ | ⟨h1',h2'⟩
   · rw [he.ρ h (by rw [hw.n];exact h1)] at hb
     rw [he.ρ h' (by rw [hw.n];exact h1')] at hb'
     exact hw.inj h h' x x' b h2 h2' hl hl' hb hb'
   · exfalso;rw [he.ρ h (by rw [hw.n];exact h1)] at hb
     have:=(hw.own b ⟨h,x,h2,hl,hb⟩).2;simp only [Cx.grow,h1',←hw.n,if_true] at hb';cases hb';omega
   · exfalso;rw [he.ρ h' (by rw [hw.n];exact h1')] at hb'
     have:=(hw.own b ⟨h',x',h2',hl',hb'⟩).2;simp only [Cx.grow,h1,←hw.n,if_true] at hb;cases hb;omega
   omega
 · intro b hb;have:=hw.imm b hb;rw [hgs];omega
 rcases hown b hb with h1|rfl
 · exact .inr h1
 exact .inl (Ae _)

theorem z0P{C:Cx}(hw:Wd C H){h b:Nat}{so so':SObj}(ho:H[h]?=some so)(hl:so.live=true)(hl':so'.live=true)(hb:C.ρ h=some b)(w':World)
 (hoth:∀b',b'≠b→w'.heap[b']?=C.w.heap[b']?)(hsz:w'.heap.size=C.w.heap.size)(hbs:∀m,World.bsize C.w b=some m→World.bsize w' b=some m)
 (hos:w'.os=C.w.os)(htp:w'.tape=C.w.tape)(hop:w'.output=C.w.output)(hs:objDen {C with w:=w'} h so'):
 Wd {C with w:=w'} (H.set h so')∧Ext ⟨C,H⟩ {C with w:=w'} (H.set h so')∧Evo C {C with w:=w'}:=by
 have hob:OwnB C H b:=⟨h,so,ho,hl,hb⟩;have hne:∀b',C.I b'→b'≠b:=fun b' hi e=>(hw.own b hob).1 (e▸hi)
 have he:Evo C {C with w:=w'}:=⟨Ae _,fun _ _=>rfl,fun b' hi=>⟨hi,hoth b' (hne b' hi)⟩,fun b' m hm=>by
  by_cases hbb:b'=b
  · subst hbb;exact hbs m hm
  unfold World.bsize at hm⊢;rw [hoth b' hbb];exact hm⟩
 have hlt:h<H.length:=(Aa.1 ho).1;have hget:∀ {h' x},(H.set h so')[h']?=some x→(h'=h∧x=so')∨(h'≠h∧H[h']?=some x):=by
  intro h' x hx;by_cases e:h'=h
  · subst e;rw [Ar hlt] at hx;cases hx;exact .inl ⟨rfl,rfl⟩
  rw [Aq (Ne.symm e)] at hx;exact .inr ⟨e,hx⟩
 have hown:∀b',OwnB {C with w:=w'} (H.set h so') b'→OwnB C H b':=by
  rintro b' ⟨h',x,hx,hlx,hbx⟩;rcases hget hx with ⟨rfl,rfl⟩ | ⟨h1,h2⟩
  · exact ⟨h',so,ho,hl,hbx⟩
  exact ⟨h',x,h2,hlx,hbx⟩
 refine ⟨⟨?_,?_,?_,?_,?_⟩,⟨he,by rw [show ({C with w:=w'}:Cx).w.heap.size=C.w.heap.size from hsz];exact Ae _,hos,htp,hop,fun b' _ hn=>hoth b' (fun e=>hn (e▸hob)),fun b' hi=>.inl hi,fun b' hb'=>.inr (hown b' hb'),fun _ _ hn=>q3P ho hl hn⟩,he⟩
 · simp [hw.n]
 · intro h' x hx;rcases hget hx with ⟨rfl,rfl⟩ | ⟨h1,h2⟩
   · exact hs
   by_cases hlx:x.live=true
   · exact q0C he.I h' rfl (fun b' hb'=>hoth b' (fun e=>h1 (hw.inj h' h x so b h2 ho hlx hl (e▸hb') hb))) (q0f he) (hw.obj h' x h2)
   cases x<;>first|trivial|simp [SObj.live] at hlx
 · intro b' hb';have:=hw.own b' (hown b' hb');exact ⟨this.1,by rw [hsz];exact this.2⟩
 · intro h1 h2 x x' b' hx hx' hlx hlx' hb1 hb2;have g1:∃y,H[h1]?=some y∧y.live=true:=by
    rcases hget hx with ⟨rfl,rfl⟩ | ⟨_,h2⟩
    · exact ⟨so,ho,hl⟩
    exact ⟨x,h2,hlx⟩
   have g2:∃y,H[h2]?=some y∧y.live=true:=by
    rcases hget hx' with ⟨rfl,rfl⟩ | ⟨_,h2⟩
    · exact ⟨so,ho,hl⟩
    exact ⟨x',h2,hlx'⟩
   obtain ⟨y1,e1,l1⟩:=g1;obtain ⟨y2,e2,l2⟩:=g2;exact hw.inj h1 h2 y1 y2 b' e1 e2 l1 l2 hb1 hb2
 intro b' hi;have:=hw.imm b' hi;rw [show ({C with w:=w'}:Cx).w.heap.size=C.w.heap.size from hsz]
 exact this

def aggOf(P:Program)(t:TypeId):Option (Option Nat):=
 match P.underlying t,P.info? t with
 |some (.struct _),some i=>some (some i.size)
 |some (.array _ _),some i=>some (some i.size)
 |some _,some _=>some none
 |_,_=>none

theorem q2C{t:TypeId}{x:Option Nat}(h:aggOf P t=some x)(w:World):(isAgg t).run P w= .ok x.isSome w:=by
 unfold aggOf at h;simp only [isAgg,underlying,Sem.run_bind,run_program,Result.andThen];cases hu:P.underlying t with
 |none=>rw [hu] at h;cases hi:P.info? t<;>simp at h
 |some d=>
  rw [hu] at h;cases hi:P.info? t with
  |none=>rw [hi] at h;cases d<;>simp at h
  |some i=>cases d<;>simp [hi] at h<;>subst h<;>simp
theorem q0j{t:TypeId}{n:Nat}(h:(P.info? t).map (·.size)=some n)(w:World):(sizeOf t).run P w= .ok n w:=by
 cases hi:P.info? t with
 |none=>simp [hi] at h
 |some i=>simp [hi] at h;simp [sizeOf,typeInfo,hi,h]
theorem q7V{t:TypeId}{n:Nat}(h:aggOf P t=some (some n)):(P.info? t).map (·.size)=some n:=by
 unfold aggOf at h;cases hu:P.underlying t with
 |none=>rw [hu] at h;cases hi:P.info? t<;>simp at h
 |some d=>
  rw [hu] at h;cases hi:P.info? t with
  |none=>rw [hi] at h;cases d<;>simp at h
  |some i=>cases d<;>simp [hi] at h<;>simp [h]

def pick(cs:List SV)(off:Nat):Option Nat→Option SV
 |none=>cs[off]?
 |some n=>if off+n≤cs.length then some (.agg ((cs.drop off).take n)) else none

theorem q0J(b off i:Nat):(⟨b,off,none⟩:Addr).add i=⟨b,off+i,none⟩:=by unfold Addr.add;split<;>simp_all

theorem q1s{t:TypeId}{x:Option Nat}(ht:aggOf P t=some x){w:World}{b base off:Nat}{vs:List Value}{cs:List SV}{C:Cx}{s:SV}(hd:SV.denL C cs vs)
 (hc:∀j u,vs[j]?=some u→w.cell? ⟨b,base+j,none⟩=some u)(hp:pick cs off x=some s):∃v,(loadVar t ⟨b,base+off,none⟩).run P w= .ok v w∧s.den C v:=by
 cases x with
 |none=>
  simp only [pick] at hp;obtain ⟨v,hv,hs⟩:=q1B hd hp;refine ⟨v,?_,hs⟩;have:=hc off v hv;simp [loadVar,q2C ht,Result.andThen,this]
 |some n=>
  simp only [pick] at hp;split at hp
  · rename_i hle;cases hp;have hlen:((vs.drop off).take n).length=n:=by
     have:=q0B hd;simp;omega
    refine ⟨.agg ((vs.drop off).take n).toArray,?_,?_⟩
    · have hl:=run_loadCells_list (P:=P) w ⟨b,base+off,none⟩ ((vs.drop off).take n) (fun j v hj=>by
       rw [q0J,Nat.add_assoc];refine hc (off+j) v ?_;rw [AH] at hj;split at hj
       · rwa [AF] at hj
       cases hj)
      rw [hlen] at hl;simp [loadVar,q2C ht,q0j (q7V ht),Result.andThen,hl]
    rw [SV.den];exact ⟨_,rfl,q4V n (q5e off hd)⟩
  cases hp

theorem q0g{w:World}{b:Nat}{vs:List Value}{T:TypeId}{fz:Nat×Nat}(h:w.heap[b]?=some (.cells vs.toArray T fz))(j:Nat):w.cell? ⟨b,j,none⟩=vs[j]?:=by
 simp [World.cell?,h]

def rawL(vs:List Value):List SV:=vs.map .raw
theorem q1e{C:Cx}:∀ (vs:List Value),SV.denL C (rawL vs) vs
 | []=>by simp [rawL,SV.denL]
 |v :: vs=>by
  simp only [rawL,AT];exact q0c.2 ⟨v,vs,rfl,by rw [SV.den],q1e vs⟩
theorem q1t{C:Cx}:∀ {vs us:List Value},SV.denL C (rawL vs) us→us=vs
 | [],us,h=>by simpa [rawL,SV.denL] using h
 |v :: vs,us,h=>by
  simp only [rawL,AT] at h;obtain ⟨u,us',rfl,h1,h2⟩:=q0c.1 h;rw [SV.den] at h1;subst h1;rw [q1t h2]

def SV.ofT(ag:Option Nat)(t:Ty)(x:t.den):Option SV:=match ag with
 |none=>match t.cells x with
  | [s]=>some s
  |_=>none
 |some _=>if t.plain then some (.agg (t.cells x)) else some (.dat t x)
theorem q4U{b off:Nat}{T:TypeId}{ag:Option Nat}{C:Cx}{t:Ty}{x:t.den}{s:SV}(ht:aggOf P T=some ag)(hl:Lies C.I C.w b off t x)(hs:SV.ofT ag t x=some s)(hm:ag=none∨ag=some t.size):
 ∃v,(loadVar T ⟨b,off,none⟩).run P C.w= .ok v C.w∧s.den C v:=by
 obtain ⟨us,hr,hc⟩:=hl;have hlen:=t.rel_size _ _ hr;have hd:=t.cells_den _ _ hr;cases ag with
 |none=>
  unfold SV.ofT at hs;simp only at hs;split at hs
  · rename_i s' hcs;cases hs;obtain ⟨v,h1,h2⟩:=q1s (P:=P) (off:=0) ht hd hc (s:=s) (by rw [hcs];rfl)
    rw [AK] at h1;exact ⟨v,h1,h2⟩
  cases hs
 |some n=>
  obtain rfl:n=t.size:=by rcases hm with h|h<;>cases h;rfl
  obtain ⟨v,h1,h2⟩:=q1s (P:=P) (C:=C) (off:=0) (s:=.agg (rawL us)) ht (q1e us) hc (by simp [pick,rawL,hlen];exact Ah (by simp [hlen]))
  rw [AK] at h1;rw [SV.den] at h2;obtain ⟨vs,rfl,h2⟩:=h2;rw [q1t h2] at h1;refine ⟨_,h1,?_⟩;unfold SV.ofT at hs;simp only at hs;split at hs
  · cases hs;rw [SV.den];exact ⟨_,rfl,hd⟩
  cases hs;rw [SV.den];exact ⟨_,rfl,hr⟩
def ZLd(C:Cx)(ag:Option Nat)(b off:Nat)(s:SV):Prop:=(∃cs vs,SV.denL C cs vs∧(∀j u,vs[j]?=some u→C.w.cell? ⟨b,off+j,none⟩=some u)∧pick cs 0 ag=some s)∨
 ∃t x,Lies C.I C.w b off t x∧SV.ofT ag t x=some s∧(ag=none∨ag=some t.size)
theorem j1X{t:TypeId}{x:Operand}{ag:Option Nat}{b off:Nat}(hop:o.op= .load t x)(ht:aggOf P t=some ag)(he:ev x= .raw (.pointer (some ⟨b,off,none⟩)))
 (h:∀E C,Wd C H→Ghost.inv E C H→∃s,ZLd C ag b off s∧K (.ret s) H):OpV P o ev H K:=by
 refine z2Q (by rw [hop];intro c hc;cases hc) fun E C e hw hg hv=> ?_
 have hx:=hv x (by rw [hop];simp [Op.operands])
 rw [he,SV.den] at hx;obtain ⟨s,hz,hk⟩:=h E C hw hg;have main:∃v,(loadVar t ⟨b,off,none⟩).run P C.w= .ok v C.w∧s.den C v:=by
  rcases hz with ⟨cs,vs,hd,hc,hp⟩ | ⟨ty,y,hl,hs,hm⟩
  · obtain ⟨v,h1,h2⟩:=q1s (P:=P) ht (b:=b) (base:=off) (off:=0) hd hc hp;rw [AK] at h1;exact ⟨v,h1,h2⟩
  exact q4U ht hl hs hm
 obtain ⟨v,h1,h2⟩:=main;exact ⟨s,v,H,C,hk,.inl (by simp [execOp,hop,hx,Instr.loadAt,Instr.sureAddr,Result.andThen,h1]),hw,.of (Ext.refl _ _),h2⟩

theorem z0T{t:TypeId}{x:Operand}{ag:Option Nat}{h off:Nat}{T:TypeId}{cs:List SV}{s:SV}(hop:o.op= .load t x)(ht:aggOf P t=some ag)(he:ev x= .ptr h off)
 (hH:H[h]?=some (.cells T cs))(hp:pick cs off ag=some s)(hk:K (.ret s) H):OpV P o ev H K:=by
 refine q0i (by rw [hop];intro c hc;cases hc) (s:=s) (fun C e hw hv=> ?_) hk
 have hx:=hv x (by rw [hop];simp [Op.operands])
 rw [he,SV.den] at hx;obtain ⟨_,b,hb,hv'⟩:=hx;obtain ⟨b',vs,hb',hcell,hd⟩:=hw.obj h _ hH;rw [hb] at hb';cases hb';obtain ⟨v,h1,h2⟩:=q1s ht (b:=b) (base:=0) (off:=off) hd (fun j u hj=>by rw [Ac,q0g hcell];exact hj) hp
 rw [Ac] at h1;exact ⟨v,by simp [execOp,hop,hv',Instr.loadAt,Instr.sureAddr,Result.andThen,h1],h2⟩

theorem q9o{t:TypeId}{x:Operand}{ag:Option Nat}{ty:Ty}{d:ty.den}{kk:Nat}{s:SV}(hop:o.op= .load t x)(ht:aggOf P t=some ag)(he:ev x= .iptr ty d kk)
 (hp:pick (ty.cells d) kk ag=some s)(hk:K (.ret s) H):OpV P o ev H K:=by
 refine q0i (by rw [hop];intro c hc;cases hc) (s:=s) (fun C e hw hv=> ?_) hk
 have hx:=hv x (by rw [hop];simp [Op.operands])
 rw [he,SV.den] at hx;obtain ⟨b,off,vs,hv',_,hr,hc⟩:=hx;obtain ⟨v,h1,h2⟩:=q1s ht (b:=b) (base:=off) (off:=kk) (Ty.cells_den _ _ _ hr) hc hp;exact ⟨v,by simp [execOp,hop,hv',Instr.loadAt,Instr.sureAddr,Result.andThen,h1],h2⟩

theorem q9D{t:TypeId}{x:Operand}{ag:Option Nat}{h i kk:Nat}{ty:Ty}{xs:List ty.den}{d:ty.den}{s:SV}(hop:o.op= .load t x)(ht:aggOf P t=some ag)(he:ev x= .rptr h ty i kk)
 (hH:H[h]?=some (.row ty xs))(hi:xs[i]?=some d)(hp:pick (ty.cells d) kk ag=some s)(hk:K (.ret s) H):OpV P o ev H K:=by
 refine q0i (by rw [hop];intro c hc;cases hc) (s:=s) (fun C e hw hv=> ?_) hk
 have hx:=hv x (by rw [hop];simp [Op.operands])
 rw [he,SV.den] at hx;obtain ⟨_,b,hb,hv'⟩:=hx;rcases hw.obj h _ hH with ⟨h1,h2⟩ | ⟨b',arr,T,fz,hb',hcell,hfz,hsz,hrow⟩
 · subst h2;simp at hi
 rw [hb] at hb';cases hb';obtain ⟨us,hr,hc⟩:=hrow i d hi;obtain ⟨v,h1,h2⟩:=q1s ht (b:=b) (base:=i*ty.size) (off:=kk) (Ty.cells_den _ _ _ hr) (fun j u hj=>by have:=hc j u hj;rwa [Ac] at this) hp
 exact ⟨v,by simp [execOp,hop,hv',Instr.loadAt,Instr.sureAddr,Result.andThen,h1],h2⟩
end Go.Sx
