/- A part of the proof: a symbolic executor over abstract values, and its soundness. -/
import Derived.Test.YtikapabgggphpaaGreatDoorS10
import Derived.Below
set_option linter.all false
namespace Go.Sx
open Go

variable [Ghost] {P:Program} {AQ:Ex→List SV→List SObj→Prop} {k0:Nat} {k:List IT} {t:List SV} {H:List SObj}

structure FI where
 ntmps:Nat
 results:List ResultVar
 code:IC

def finfo(P:Program)(f:FuncId):Option FI:=
 match P.funcs[f]? with
 |some fn=>match fn.body with
  |some c=>match comp P c with
   |some ic=>if fn.name== "runtime.NumGoroutine" then none else some ⟨fn.ntmps,fn.results.toList,ic⟩
   |none=>none
  |none=>none
 |none=>none

def retF(P:Program)(rs:List ResultVar)(K:Out→List SObj→Prop):Ex→List SV→List SObj→Prop
 |.normal,t,H=>∃s,resV P t H rs=some s∧K (.ret s) H
 |.ret,t,H=>∃s,resV P t H rs=some s∧K (.ret s) H
 |.pan s,_,H=>K (.pan s) H
 |.exit _,_,_=>False

theorem q0Z{f:FuncId}{fi:FI}{args:List SV}{K:Out→List SObj→Prop}(h:finfo P f=some fi)
 (hs: @SoundI noGhost P (retF P fi.results K) ⟨H.length,[.ic fi.code],args++List.replicate (fi.ntmps-args.length) .any,H⟩):VC P f args H K:=by
 unfold finfo at h;split at h
 · rename_i fn hf;split at h
   · rename_i c hb;split at h
     · rename_i ic hc;split at h
       · cases h
       rename_i hn;cases h;refine ⟨by simp [enters,hf,hb];simpa using hn,?_⟩
       have hq:retQ P fn K=retF P fn.results.toList K:=by funext e t H;cases e<;>rfl
       exact q6h hf hb (by rw [hq];exact @q0h noGhost _ _ _ _ _ _ _ hs ⟨c,[],rfl,hc,rfl⟩)
     cases h
   cases h
 cases h

def PC(P:Program)(f:FuncId)(args:List SV)(s:SV):Prop:=enters P f=true∧∀ (H:List SObj) (K:Out→List SObj→Prop),K (.ret s) H→VCall P f args H K

def PK(s:SV):Out→List SObj→Prop:=fun o _=>o= .ret s

theorem q0p{f:FuncId}{args:List SV}{s:SV}(ha:SV.cleanL args=true)(hs:s.clean=true)(h:VC P f args [] (PK s)):PC P f args s:=
 ⟨h.1,fun H K hk=>VCall.frame ha hs h.2 H K hk⟩

theorem q0a{f:FuncId}{args:List SV}{s:SV}{d:Option Tmp}{m:IM}(hp:PC P f args s)(h:SoundI P AQ {m with tmps:=putT m.tmps d s}):CallI P AQ f args d m:=
 ⟨hp.1,(hp.2 _ _ h).g⟩
theorem q0e{G:List Nat}{f:FuncId}{args:List SV}{s:SV}{d:Option Tmp}{m:IM}(hp:PC P f args s)(h:SoundI P AQ {m with tmps:=putT m.tmps d s}):CallR P AQ G f args d m:=
 ⟨hp.1,(hp.2 _ _ ⟨fun _=>SameG.refl _ _,h⟩).g⟩
theorem q0U{f:FuncId}{args:List SV}{s:SV}{d:Option Tmp}{m:IM}(hp:PC P f args s)(h:SoundI P AQ {m with tmps:=putT m.tmps d s}):CallF P AQ f args d m:=
 ⟨s,hp.1,fun H' K hk=>(hp.2 H' K hk).g,h⟩

mutual
def SV.ren(σ:Nat→Nat):SV→SV
 |.ptr h off=>.ptr (σ h) off
 |.rptr h t i k=>.rptr (σ h) t i k
 |.bld h t n=>.bld (σ h) t n
 |.osl h t off n=>.osl (σ h) t off n
 |.csl h t k i n=>.csl (σ h) t k i n
 |.mp h=>.mp (σ h)
 |.imap kk ks vs=>.imap kk ks vs
 |.agg l=>.agg (SV.renL σ l)
 |.tup l=>.tup (SV.renL σ l)
 |.fn f a b=>.fn f (SV.renL σ a) (SV.renL σ b)
 |.iface T x=>.iface T (SV.ren σ x)
 |.any=>.any
 |.raw v=>.raw v
 |.isl t xs=>.isl t xs
 |.fsl t xs=>.fsl t xs
 |.iptr t x k=>.iptr t x k
 |.dat t x=>.dat t x
def SV.renL(σ:Nat→Nat):List SV→List SV
 | []=>[]
 |s :: l=>SV.ren σ s :: SV.renL σ l
end
mutual
def SV.bel(n:Nat):SV→Bool
 |.ptr h _=>decide (h<n)
 |.rptr h _ _ _=>decide (h<n)
 |.bld h _ _=>decide (h<n)
 |.osl h _ _ _=>decide (h<n)
 |.csl h _ _ _ _=>decide (h<n)
 |.mp h=>decide (h<n)
 |.agg l=>SV.belL n l
 |.tup l=>SV.belL n l
 |.fn _ a b=>SV.belL n a&& SV.belL n b
 |.iface _ x=>SV.bel n x
 |.any=>true
 |.raw _=>true
 |.isl _ _=>true
 |.fsl _ _=>true
 |.iptr _ _ _=>true
 |.dat _ _=>true
 |.imap _ _ _=>true
def SV.belL(n:Nat):List SV→Bool
 | []=>true
 |s :: l=>SV.bel n s&& SV.belL n l
end
def Cx.ren(C:Cx)(σ:Nat→Nat)(n:Nat):Cx:={ρ:=fun h=>C.ρ (σ h),n:=n,I:=C.I,w:=C.w}

mutual
theorem q8j{C:Cx}{σ:Nat→Nat}{n:Nat}:∀ {s:SV} {v:Value},s.bel n=true→(s.ren σ).den C v→s.den (C.ren σ n) v
 |.any,_,_,_=>by rw [SV.den];trivial
 |.raw _,_,_,d=>by rw [SV.ren,SV.den] at d;rw [SV.den];exact d
 |.isl _ _,_,_,d=>by rw [SV.ren,SV.den] at d;rw [SV.den];exact d
 |.fsl _ _,_,_,d=>by rw [SV.ren,SV.den] at d;rw [SV.den];exact d
 |.iptr _ _ _,_,_,d=>by rw [SV.ren,SV.den] at d;rw [SV.den];exact d
 |.ptr h off,_,hb,d=>by rw [SV.ren,SV.den] at d;rw [SV.den];exact ⟨by simpa [SV.bel,Cx.ren] using hb,d.2⟩
 |.rptr h t i k,_,hb,d=>by rw [SV.ren,SV.den] at d;rw [SV.den];exact ⟨by simpa [SV.bel,Cx.ren] using hb,d.2⟩
 |.bld h t m,_,hb,d=>by rw [SV.ren,SV.den] at d;rw [SV.den];exact ⟨by simpa [SV.bel,Cx.ren] using hb,d.2⟩
 |.osl h t off m,_,hb,d=>by rw [SV.ren,SV.den] at d;rw [SV.den];exact ⟨by simpa [SV.bel,Cx.ren] using hb,d.2⟩
 |.dat _ _,_,_,d=>by rw [SV.ren,SV.den] at d;rw [SV.den];exact d
 |.csl h t k i m,_,hb,d=>by rw [SV.ren,SV.den] at d;rw [SV.den];exact ⟨by simpa [SV.bel,Cx.ren] using hb,d.2⟩
 |.mp h,_,hb,d=>by rw [SV.ren,SV.den] at d;rw [SV.den];exact ⟨by simpa [SV.bel,Cx.ren] using hb,d.2⟩
 |.imap ..,_,_,d=>by rw [SV.ren,SV.den] at d;rw [SV.den];exact d
 |.agg l,_,hb,d=>by
  rw [SV.ren,SV.den] at d;rw [SV.den];obtain ⟨vs,hv,hl⟩:=d;exact ⟨vs,hv,q2X (by simpa [SV.bel] using hb) hl⟩
 |.tup l,_,hb,d=>by
  rw [SV.ren,SV.den] at d;rw [SV.den];obtain ⟨vs,hv,hl⟩:=d;exact ⟨vs,hv,q2X (by simpa [SV.bel] using hb) hl⟩
 |.fn f a b,_,hb,d=>by
  rw [SV.ren,SV.den] at d;rw [SV.den];obtain ⟨v1,v2,hv,h1,h2⟩:=d;simp [SV.bel] at hb;exact ⟨v1,v2,hv,q2X hb.1 h1,q2X hb.2 h2⟩
 |.iface T x,_,hb,d=>by
  rw [SV.ren,SV.den] at d;rw [SV.den];obtain ⟨u,hv,h1⟩:=d;exact ⟨u,hv,q8j (by simpa [SV.bel] using hb) h1⟩
theorem q2X{C:Cx}{σ:Nat→Nat}{n:Nat}:∀ {l:List SV} {vs:List Value},SV.belL n l=true→SV.denL C (SV.renL σ l) vs→SV.denL (C.ren σ n) l vs
 | [],_,_,d=>by rw [SV.renL,SV.denL] at d;rw [SV.denL];exact d
 |s :: l,_,hb,d=>by
  rw [SV.renL,SV.denL] at d;rw [SV.denL];simp [SV.belL] at hb;obtain ⟨v,us,rfl,h1,h2⟩:=d;exact ⟨v,us,rfl,q8j hb.1 h1,q2X hb.2 h2⟩
end

def SObj.ren(σ:Nat→Nat):SObj→SObj
 |.cells T cs=>.cells T (SV.renL σ cs)
 |o=>o
def SObj.bel(n:Nat):SObj→Bool
 |.cells _ cs=>SV.belL n cs
 |_=>true
theorem objRen{C:Cx}{σ:Nat→Nat}{n h:Nat}:∀ {o:SObj},o.bel n=true→objDen C (σ h) (o.ren σ)→objDen (C.ren σ n) h o
 |.dead,_,_=>trivial
 |.cells T cs,hb,⟨b,vs,h1,h2,h3⟩=>⟨b,vs,h1,h2,q2X (by simpa [SObj.bel] using hb) h3⟩
 |.row t xs,_,d=>d
 |.map kk ks vs,_,d=>d
 |.mark _,_,_=>trivial

def leS(σ:Nat→Nat)(s:SV):SV→Prop
 |.any=>True
 |s'=>s=s'.ren σ
def leT(σ:Nat→Nat):List SV→List SV→Prop
 | [],[]=>True
 |s :: l,s' :: l'=>leS σ s s'∧leT σ l l'
 |_,_=>False
def leH(σ:Nat→Nat)(H:List SObj)(i:Nat):List SObj→Prop
 | []=>True
 |.dead :: l=>leH σ H (i+1) l
 |o :: l=>H[σ i]?=some (o.ren σ)∧leH σ H (i+1) l
def belH(n:Nat):List SObj→Bool
 | []=>true
 |o :: l=>o.bel n&& belH n l
def injH(σ:Nat→Nat)(i:Nat):List SObj→List Nat→Bool
 | [],_=>true
 |.dead :: l,seen=>injH σ (i+1) l seen
 |_ :: l,seen=> !seen.contains (σ i) && injH σ (i+1) l (σ i :: seen)
def fixK(σ:Nat→Nat):Nat→Bool
 |0=>true
 |n+1=>(σ n==n) && fixK σ n

structure Le (σ:Nat→Nat) (k0:Nat) (t:List SV) (H:List SObj) (t':List SV) (H':List SObj):Prop where
 tm:leT σ t t'
 hp:leH σ H 0 H'
 bt:SV.belL H'.length t'=true
 bh:belH H'.length H'=true
 inj:injH σ 0 H' []=true
 fix:fixK σ k0=true
 len:k0≤H'.length
 mk0:∀n,0<k0→H[0]?=some (.mark n)→H'[0]?=some (.mark n)

theorem j2L{C:Cx}{σ:Nat→Nat}{n:Nat}{s s':SV}{v:Value}(h:leS σ s s')(hb:s'.bel n=true)(hd:s.den C v):s'.den (C.ren σ n) v:=by
 cases s'<;>first| (rw [SV.den];trivial) | (simp only [leS] at h;rw [h] at hd;exact q8j hb hd)
theorem z1f{C:Cx}{σ:Nat→Nat}{n:Nat}:∀ {t t':List SV} {vs:List Value},leT σ t t'→SV.belL n t'=true→SV.denL C t vs→SV.denL (C.ren σ n) t' vs
 | [],[],_,_,_,d=>by rw [q0u] at d⊢;exact d
 |s :: l,s' :: l',_,h,hb,d=>by
  obtain ⟨v,us,rfl,h1,h2⟩:=q0b.1 d;simp [SV.belL] at hb;exact q0b.2 ⟨v,us,rfl,j2L h.1 hb.1 h1,z1f h.2 hb.2 h2⟩
 | [],_ :: _,_,h,_,_=>h.elim
 |_ :: _,[],_,h,_,_=>h.elim
theorem q6L{σ:Nat→Nat}:∀ {H':List SObj} {i h:Nat} {o:SObj},leH σ H i H'→H'[h]?=some o→o.live=true→H[σ (i+h)]?=some (o.ren σ)
 | [],_,_,_,_,hi,_=>by simp at hi
 |x :: l,i,0,o,hl,hi,hlive=>by
  simp at hi;subst hi;cases x with
  |dead=>simp [SObj.live] at hlive
  |cells T cs=>exact hl.1
  |row t xs=>exact hl.1
  |map kk ks vs=>exact hl.1
  |mark n=>exact hl.1
 |x :: l,i,h+1,o,hl,hi,hlive=>by
  simp at hi;have:leH σ H (i+1) l:=by
   cases x with
   |dead=>exact hl
   |cells T cs=>exact hl.2
   |row t xs=>exact hl.2
   |map kk ks vs=>exact hl.2
   |mark n=>exact hl.2
  have:=q6L this hi hlive;rwa [show i+1+h=i+ (h+1) by omega] at this
theorem q3P{n:Nat}:∀ {H':List SObj} {h:Nat} {o:SObj},belH n H'=true→H'[h]?=some o→o.bel n=true
 | [],_,_,_,hi=>by simp at hi
 |x :: l,0,o,hb,hi=>by simp at hi;subst hi;simp [belH] at hb;exact hb.1
 |x :: l,h+1,o,hb,hi=>by simp at hi;simp [belH] at hb;exact q3P hb.2 hi
theorem q1C{σ:Nat→Nat}:∀ {H':List SObj} {i h:Nat} {o:SObj} {seen:List Nat},injH σ i H' seen=true→H'[h]?=some o→o.live=true→σ (i+h) ∉ seen
 | [],_,_,_,_,_,hi,_=>by simp at hi
 |x :: l,i,0,o,seen,hj,hi,hl=>by
  simp at hi;subst hi;cases x with
  |dead=>simp [SObj.live] at hl
  |cells T cs=>simp [injH] at hj;simpa using hj.1
  |row t xs=>simp [injH] at hj;simpa using hj.1
  |map kk ks vs=>simp [injH] at hj;simpa using hj.1
  |mark n=>simp [injH] at hj;simpa using hj.1
 |x :: l,i,h+1,o,seen,hj,hi,hl=>by
  simp at hi;have e:i+1+h=i+ (h+1):=by omega
  cases x with
  |dead=>have:=q1C (i:=i+1) (seen:=seen) (by simpa [injH] using hj) hi hl;rwa [e] at this
  |cells T cs=>simp [injH] at hj;have:=q1C hj.2 hi hl;rw [e] at this;exact fun hm=>this (AN _ hm)
  |row t xs=>simp [injH] at hj;have:=q1C hj.2 hi hl;rw [e] at this;exact fun hm=>this (AN _ hm)
  |map kk ks vs=>simp [injH] at hj;have:=q1C hj.2 hi hl;rw [e] at this;exact fun hm=>this (AN _ hm)
  |mark n=>simp [injH] at hj;have:=q1C hj.2 hi hl;rw [e] at this;exact fun hm=>this (AN _ hm)
theorem q3d{σ:Nat→Nat}:∀ {H':List SObj} {i h h':Nat} {o o':SObj} {seen:List Nat},injH σ i H' seen=true→H'[h]?=some o→H'[h']?=some o'→o.live=true→o'.live=true→h<h'→σ (i+h)≠σ (i+h')
 | [],_,_,_,_,_,_,_,hi,_,_,_,_=>by simp at hi
 |x :: l,i,0,h'+1,o,o',seen,hj,hi,hi',hl,hl',_=>by
  simp at hi hi';subst hi;have e:i+1+h'=i+ (h'+1):=by omega
  cases x with
  |dead=>simp [SObj.live] at hl
  |cells T cs=>simp [injH] at hj;have:=q1C hj.2 hi' hl';rw [e] at this;simp at this;exact fun he=>this.1 he.symm
  |row t xs=>simp [injH] at hj;have:=q1C hj.2 hi' hl';rw [e] at this;simp at this;exact fun he=>this.1 he.symm
  |map kk ks vs=>simp [injH] at hj;have:=q1C hj.2 hi' hl';rw [e] at this;simp at this;exact fun he=>this.1 he.symm
  |mark n=>simp [injH] at hj;have:=q1C hj.2 hi' hl';rw [e] at this;simp at this;exact fun he=>this.1 he.symm
 |x :: l,i,h+1,h'+1,o,o',seen,hj,hi,hi',hl,hl',hlt=>by
  simp at hi hi';have e:i+1+h'=i+ (h'+1):=by omega
  have e2:i+1+h=i+ (h+1):=by omega
  cases x with
  |dead=>have:=q3d (i:=i+1) (seen:=seen) (by simpa [injH] using hj) hi hi' hl hl' (by omega);rwa [e,e2] at this
  |cells T cs=>simp [injH] at hj;have:=q3d hj.2 hi hi' hl hl' (by omega);rwa [e,e2] at this
  |row t xs=>simp [injH] at hj;have:=q3d hj.2 hi hi' hl hl' (by omega);rwa [e,e2] at this
  |map kk ks vs=>simp [injH] at hj;have:=q3d hj.2 hi hi' hl hl' (by omega);rwa [e,e2] at this
  |mark n=>simp [injH] at hj;have:=q3d hj.2 hi hi' hl hl' (by omega);rwa [e,e2] at this
theorem z3h{σ:Nat→Nat}:∀ {n h:Nat},fixK σ n=true→h<n→σ h=h
 |0,_,_,hh=>absurd hh (by omega)
 |n+1,h,hf,hh=>by
  simp [fixK] at hf;by_cases e:h=n
  · rw [e];exact hf.1
  exact z3h hf.2 (by omega)
theorem q1a(σ:Nat→Nat)(o:SObj):(o.ren σ).live=o.live:=by cases o<;>rfl

theorem Le.wd{σ:Nat→Nat}{t':List SV}{H':List SObj}{E:EnD}{C:Cx}{a:Act}(h:Le σ k0 t H t' H')(he:E.C.n≤k0)(hd:Den E C t H a):Den E (C.ren σ H'.length) t' H' a:=by
 have hown:∀b,OwnB (C.ren σ H'.length) H' b→OwnB C H b:=by
  rintro b ⟨i,o,ho,hl,hb⟩;have:=q6L h.hp ho hl;rw [Ac] at this;exact ⟨σ i,_,this,by rw [q1a];exact hl,hb⟩
 have hevo:Evo E.C (C.ren σ H'.length):=⟨AA he h.len,fun x hx=>by simp only [Cx.ren];rw [z3h h.fix (by omega)];exact hd.ext.evo.ρ x hx,hd.ext.evo.I,hd.ext.evo.sz⟩
 refine ⟨⟨rfl,?_,fun b hb=>hd.wd.own b (hown b hb),?_,hd.wd.imm⟩,⟨hevo,hd.ext.size,hd.ext.os,hd.ext.tape,hd.ext.output,hd.ext.frame,hd.ext.immNew,fun b hb=>hd.ext.ownNew b (hown b hb),fun n h0 hn=>h.mk0 n (An h0 he) (hd.ext.keep0 n h0 hn)⟩,?_,z1f h.tm h.bt hd.tmps⟩
 · intro i o ho;by_cases hl:o.live=true
   · have:=q6L h.hp ho hl;rw [Ac] at this;exact objRen (q3P h.bh ho) (hd.wd.obj _ _ this)
   cases o<;>first|trivial|simp [SObj.live] at hl
 · intro i j o o' b ho ho' hl hl' hb hb';have e1:=q6L h.hp ho hl;have e2:=q6L h.hp ho' hl';rw [Ac] at e1 e2;have hσ:=hd.wd.inj (σ i) (σ j) _ _ b e1 e2 (by rw [q1a];exact hl) (by rw [q1a];exact hl') hb hb'
   rcases CD i j with hij|hij|hij
   · have:=q3d h.inj ho ho' hl hl' hij;rw [Ac,Ac] at this;exact absurd hσ this
   · exact hij
   have:=q3d h.inj ho' ho hl' hl hij;rw [Ac,Ac] at this;exact absurd hσ.symm this
 exact ⟨hd.defs.1,Ghost.same hd.wd rfl (fun _ h=>h) (fun _ hb=>.inl hb) hown (fun n h0 hn=>h.mk0 n (An h0 he) hn) hevo.n hd.defs.2⟩

theorem z9s{P:Program}{k:List It}{σ:Nat→Nat}{t':List SV}{H':List SObj}(h:Le σ k0 t H t' H')(hs:Sound P AQ ⟨k0,k,t',H'⟩):Sound P AQ ⟨k0,k,t,H⟩:=
 fun E r n C a h0 hd=>hs E r n (C.ren σ H'.length) a h0 (h.wd h0.1 hd)
theorem q7o{td:List IT}{σ:Nat→Nat}{t':List SV}{H':List SObj}(hp:plainT td=true)(h:Le σ k0 t H t' H')(hs:SoundI P AQ ⟨k0,td,t',H'⟩):SoundI P AQ ⟨k0,td,t,H⟩:=
 q0f (fun _ hr=>z9s h (q0h hs hr)) hp

theorem sound_loop'{P:Program}{k:List It}{ι:Type}(c:Code)(S:ι→List SV×List SObj)(μ:ι→Nat)(p:ι→Prop)(i₀:ι)(h₀:p i₀)(hs:∃σ,Le σ k0 t H (S i₀).1 (S i₀).2)
 (round:∀i,p i→Sound P AQ ⟨k0,.code c :: .stop (fun t' H'=>∃j,p j∧μ j<μ i∧∃σ,Le σ k0 t' H' (S j).1 (S j).2) :: k,(S i).1,(S i).2⟩):
 Sound P AQ ⟨k0,.code (.loop c) :: k,t,H⟩:=fun E r n C a h0 hd=>by
 simp only [wpT];obtain ⟨σ,hσ⟩:=hs;refine q0N (fun m a w=>∃i,p i∧μ i=m∧∃C,C.w=w∧Den E C (S i).1 (S i).2 a) (μ i₀) ⟨i₀,h₀,rfl,C.ren σ (S i₀).2.length,rfl,hσ.wd h0.1 hd⟩ ?_;rintro m a w ⟨i,hp,rfl,C,rfl,hd⟩;have h1:=round i hp E r n C a h0 hd;simp only [wpT] at h1;refine wpIn_mono h1 fun e a w hq=> ?_;cases e with
 |normal=>
  obtain ⟨C',t',H',⟨j,hj,hlt,σ',hS⟩,rfl,hd'⟩:=hq;exact ⟨μ j,hlt,j,hj,rfl,C'.ren σ' (S j).2.length,rfl,hS.wd h0.1 hd'⟩
 |exit id=>simpa only [Exit.then,exitT] using hq
 |_=>exact hq

def RoundK{ι:Type}(k0:Nat)(S:ι→List SV×List SObj)(μ:ι→Nat)(p:ι→Prop)(i:ι):List SV→List SObj→Prop:=
 fun t' H'=>∃j,p j∧μ j<μ i∧∃σ,Le σ k0 t' H' (S j).1 (S j).2

theorem j2S{ι:Type}{c:IC}(S:ι→List SV×List SObj)(μ:ι→Nat)(p:ι→Prop)(i₀:ι)(h₀:p i₀)(hs:∃σ,Le σ k0 t H (S i₀).1 (S i₀).2)
 (round:∀i,p i→SoundI P AQ ⟨k0,.ic c :: .stop (RoundK k0 S μ p i) :: k,(S i).1,(S i).2⟩):SoundI P AQ ⟨k0,.ic (.loop c) :: k,t,H⟩:=q0f (fun td' hr=>by
 obtain ⟨c',r,rfl,hc,hr⟩:=hr;obtain ⟨x,rfl,hx⟩:=q0E hc
 exact sound_loop' x S μ p i₀ h₀ hs (fun i hi=>q0h (round i hi) ⟨x,_,rfl,hx,r,rfl,hr⟩)) rfl

theorem q0X(h:Nat){ty:Ty}{xs:List ty.den}{td:List IT}(hp:plainT td=true)(hH:H[h]?=some (.row ty xs))(hlen:xs.length≤1125899906842624)(ho:frzObH h ty xs H)(hot:SV.frzObL h ty xs t)(hs:SoundI P AQ ⟨k0,td,SV.frzL h ty xs t,frzH h ty xs H⟩):SoundI P AQ ⟨k0,td,t,H⟩:=
 q0f (fun _ hr=>q9B h hH hlen ho hot (q0h hs hr)) hp

def OpI.wr(io:OpI):List Nat:=io.dst.toList
def IC.wr:IC→List Nat
 |.reg l=>l.flatMap OpI.wr
 |.drw l=>l.flatMap fun x=>OpI.wr x.2
 |.seq a b=>a.wr++b.wr
 |.cond _ a b=>a.wr++b.wr
 |.blk _ c=>c.wr
 |.loop c=>c.wr
 |.scp c=>c.wr
 |_=>[]
def maskT(ws:List Nat)(t:List SV):List SV:=ws.foldl (fun t d=>t.set d .any) t
end Go.Sx
namespace Go.Sx
open Go
/- Short forms of operations. -/
def ci(n:Int):Operand:=.const (.int .i64 n)
def o0(i:IOp):OpI:=⟨none,i,none⟩
def o1(d:Nat)(i:IOp):OpI:=⟨some d,i,none⟩
def oT(d:Nat)(i:IOp)(g:Nat):OpI:=⟨some d,i,some (g,true)⟩
def oF(d:Nat)(i:IOp)(g:Nat):OpI:=⟨some d,i,some (g,false)⟩
def mv(d x:Nat):OpI:=⟨some d,.mov (.tmp x),none⟩
def ex(d i x:Nat):OpI:=⟨some d,.ext i (.tmp x),none⟩
attribute [go_sem] ci o0 o1 oT oF mv ex strictP
theorem zA:(∀A B:Prop,bothG true true A B=A)∧(∀A B:Prop,bothG true false A B=B)∧(∀A B:Prop,bothG false true A B=B)∧(∀A B:Prop,bothG false false A B=A):=⟨z9l,z8b,z7R,z9B⟩
theorem zB:(∀ (v:Bool) (A B:Prop),bothG true v A B=((v=true→A)∧(v=false→B)))∧(∀ (v:Bool) (A B:Prop),bothG false v A B=((v=false→A)∧(v=true→B)))∧(∀ (p:Prop) [Decidable p],(decide p=true)=p)∧(∀ (p:Prop) [Decidable p],(decide p=false)= ¬p)∧
 (∀b:Bool,((!b)=true)=(b=false))∧(∀b:Bool,((!b)=false)=(b=true))∧(∀m n:Nat,((m:Int) < (n:Int))=(m<n))∧(∀m n:Nat,((m:Int)≤(n:Int))=(m≤n)):=
 ⟨j0V,j1A,fun p _=>decide_eq_true_eq,fun p _=>propext decide_eq_false_iff_not,fun b=>Bool.not_eq_true' b,fun b=>Bool.not_eq_false' b,fun m n=>propext Int.ofNat_lt,fun m n=>propext Int.ofNat_le⟩
attribute [go_sem] q2g q2I gkI mapOf mres mget mput findI keyEq keyIs SV.toV SV.toVL SV.ofV SV.wk fullS run exec execR execF IOp.ev evLd evSt evBin evEq evNil SV.emp eqRs eqR eqOk eqV binV unV evT putT SV.flat SV.one SV.nonNil ones rawL Sx.pick splice fillS PlaceK.fn SV.add resRow addA addB slA slB ldRow stRow viewOf ownPart putPart dstAt putAll Ty.plain Ty.get get1 Ty.arrAt Ty.cellAt SV.ofT SV.datum SV.dflat Ty.putV put1 Ty.modR Ty.modS  SV.len lenOk slOk sliceTo lenOfS bndV loOf hiOf exitI gOf floatOk isCallI isBslI retF resV resVL resV1 PK rdL Ty.rd rdU8 rdInt rdBool rdStr rdSlice rdUnit Ty.size Ty.cells Value.cells Value.oneCell' srcS srcOf dstOf List.getD_cons_zero List.getD_cons_succ List.set_cons_zero List.set_cons_succ List.cons_append List.nil_append List.append_nil List.replicate List.length_cons List.length_nil List.map_cons List.map_nil List.getElem?_cons_zero List.getElem?_cons_succ List.take_succ_cons List.take_zero List.drop_succ_cons List.drop_zero List.take_nil List.drop_nil true_and and_true false_and and_false eq_self Bool.not_true Bool.not_false false_implies implies_true forall_const Option.some.injEq exists_eq_left' exists_eq_left Out.ret.injEq SV.raw.injEq Value.bool.injEq Bool.or_true Bool.true_or Bool.or_false Bool.false_or beq_self_eq_true and_self Bool.and_true Bool.true_and Bool.and_self Bool.and_false Bool.false_and Option.map_some Option.map_none decide_true decide_false Bool.false_eq_true cast_eq List.contains_cons List.contains_nil List.any_nil List.any_cons
/- A goal and what it simplifies to. -/
attribute [go_sem_proc] reduceCtorEq Nat.reduceAdd Nat.reduceSub Nat.reduceLeDiff Nat.reduceLT Nat.reduceEqDiff Nat.reduceBEq Nat.reduceMul Int.reduceToNat Int.reduceEq Int.reduceLT Int.reduceLE
theorem sxE{p q:Prop}(h:q)(e:p=q:=by (simp (maxSteps:=3000000) only [go_sem,↓zA,↓reduceIte,↓reduceDIte];(try simp only [zB]);rfl)):p:=Eq.mpr e h
theorem goE[Ghost]{P:Program}{AQ:Ex→List SV→List SObj→Prop}{m:IM}{q:Prop}(hm:P.follows .mixedOrders=true)(h:q)(e:run P AQ 600 m=q:=by (simp (maxSteps:=3000000) only [go_sem,↓zA,↓reduceIte,↓reduceDIte];(try simp only [zB]);rfl)):SoundI P AQ m:=q0r hm 600 m (Eq.mpr e h)
theorem runE{P:Program}{f:FuncId}{fi:FI}{args:List SV}{K:Out→List SObj→Prop}{H:List SObj}{q:Prop}(hm:P.follows .mixedOrders=true)(hf:finfo P f=some fi)(h:q)
 (e:run P (retF P fi.results K) 600 ⟨H.length,[.ic fi.code],args++List.replicate (fi.ntmps-args.length) .any,H⟩=q:=by (simp (maxSteps:=3000000) only [go_sem,↓zA,↓reduceIte,↓reduceDIte];(try simp only [zB]);rfl)):VC P f args H K:=q0Z hf (q0r hm 600 _ (Eq.mpr e h))
theorem sx1{a p q:Prop}(w:a)(h:q)(e:a→p=q:=by (intro w;simp (maxSteps:=3000000) only [w,go_sem,↓zA,↓reduceIte,↓reduceDIte];(try simp only [zB]);rfl)):p:=Eq.mpr (e w) h
theorem sx3{a b p q:Prop}(w:a)(w2:b)(h:q)(e:a→b→p=q:=by (intro w w2;simp (maxSteps:=3000000) only [w,w2,Ad,go_sem,↓zA,↓reduceIte,↓reduceDIte];(try simp only [zB]);rfl)):p:=Eq.mpr (e w w2) h
end Go.Sx
namespace Go.Sx
open Go

variable [Ghost] {P:Program} {AQ:Ex→List SV→List SObj→Prop} {k0:Nat} {k:List IT} {t:List SV} {H:List SObj}

def leM1(s:SV):SV→Prop
 |.any=>True
 |s'=>s=s'
def leM:List SV→List SV→Prop
 | [],[]=>True
 |s :: l,s' :: l'=>leM1 s s'∧leM l l'
 |_,_=>False
theorem j1h{s s':SV}(h:leM1 s s'):SV.le s s':=by
 cases s'<;>first|exact SV.le_any _| (simp only [leM1] at h;subst h;exact SV.le_refl _)
theorem q3v:∀ {l l':List SV},leM l l'→leL l l'
 | [],[],_=>trivial
 |_ :: _,_ :: _,h=>⟨j1h h.1,q3v h.2⟩
 | [],_ :: _,h=>h.elim
 |_ :: _,[],h=>h.elim
theorem z3g:∀ (l:List SV),leM l l
 | []=>trivial
 |s :: l=>⟨by cases s<;>simp [leM1],z3g l⟩

def setMany(t:List SV):List (Nat×SV)→List SV
 | []=>t
 | (i,s) :: l=>setMany (t.set i s) l

def RoundX{ι:Type}(Hf:ι→List SObj)(S:ι→List SV)(μ:ι→Nat)(p:ι→Prop)(i:ι):List SV→List SObj→Prop:=
 fun t' H'=>∃j,p j∧μ j<μ i∧H'=Hf j∧leM t' (S j)

theorem z1a{P:Program}{k:List It}{ι:Type}(c:Code)(S:ι→List SV)(Hf:ι→List SObj)(μ:ι→Nat)(p:ι→Prop)(i₀:ι)(h₀:p i₀)(hH:H=Hf i₀)(hs:leM t (S i₀))
 (round:∀i,p i→Sound P AQ ⟨k0,.code c :: .stop (RoundX Hf S μ p i) :: k,S i,Hf i⟩):Sound P AQ ⟨k0,.code (.loop c) :: k,t,H⟩:=fun E r n C a h0 hd=>by
 subst hH;simp only [wpT];refine q0N (fun m a w=>∃i,p i∧μ i=m∧∃C,C.w=w∧Den E C (S i) (Hf i) a) (μ i₀) ⟨i₀,h₀,rfl,C,rfl,hd.wd,hd.ext,hd.defs,q3o (q3v hs) hd.tmps⟩ ?_;rintro m a w ⟨i,hp,rfl,C,rfl,hd⟩;have h1:=round i hp E r n C a h0 hd;simp only [wpT] at h1;refine wpIn_mono h1 fun e a w hq=> ?_;cases e with
 |normal=>
  obtain ⟨C',t',H',⟨j,hj,hlt,rfl,hS⟩,rfl,hd'⟩:=hq;exact ⟨μ j,hlt,j,hj,rfl,C',rfl,hd'.wd,hd'.ext,hd'.defs,q3o (q3v hS) hd'.tmps⟩
 |exit id=>simpa only [Exit.then,exitT] using hq
 |_=>exact hq

theorem q0d{ι:Type}{c:IC}(upd:ι→List (Nat×SV))(Hf:ι→List SObj)(μ:ι→Nat)(p:ι→Prop)(i₀:ι)(h₀:p i₀)(hH:H=Hf i₀)(hs:leM t (setMany (maskT c.wr t) (upd i₀)))
 (round:∀i,p i→SoundI P AQ ⟨k0,.ic c :: .stop (RoundX Hf (fun i=>setMany (maskT c.wr t) (upd i)) μ p i) :: k,setMany (maskT c.wr t) (upd i),Hf i⟩):SoundI P AQ ⟨k0,.ic (.loop c) :: k,t,H⟩:=q0f (fun td' hr=>by
 obtain ⟨c',r,rfl,hc,hr⟩:=hr;obtain ⟨x,rfl,hx⟩:=q0E hc
 exact z1a x _ Hf μ p i₀ h₀ hH hs (fun i hi=>q0h (round i hi) ⟨x,_,rfl,hx,r,rfl,hr⟩)) rfl

theorem q2T{i:Nat}(h:i<4611686018427387904):IntKind.i64.wrap ((i:Int)+1)=((i+1:Nat):Int):=by
 rw [IntWalk.i64_in _ (by omega)];rfl

mutual
theorem z5M{C:Cx}:∀ {s:SV} {v:Value},s.den C v→s.bel C.n=true
 |.any,_,_=>rfl
 |.raw _,_,_=>rfl
 |.isl _ _,_,_=>rfl
 |.fsl _ _,_,_=>rfl
 |.iptr _ _ _,_,_=>rfl
 |.dat _ _,_,_=>rfl
 |.ptr h off,_,d=>by rw [SV.den] at d;simpa [SV.bel] using d.1
 |.rptr h t i k,_,d=>by rw [SV.den] at d;simpa [SV.bel] using d.1
 |.bld h t m,_,d=>by rw [SV.den] at d;simpa [SV.bel] using d.1
 |.osl h t off m,_,d=>by rw [SV.den] at d;simpa [SV.bel] using d.1
 |.csl h t k i m,_,d=>by rw [SV.den] at d;simpa [SV.bel] using d.1
 |.mp h,_,d=>by rw [SV.den] at d;simpa [SV.bel] using d.1
 |.imap ..,_,_=>rfl
 |.agg l,_,d=>by rw [SV.den] at d;obtain ⟨vs,_,hl⟩:=d;rw [SV.bel];exact q1J hl
 |.tup l,_,d=>by rw [SV.den] at d;obtain ⟨vs,_,hl⟩:=d;rw [SV.bel];exact q1J hl
 |.fn f a b,_,d=>by rw [SV.den] at d;obtain ⟨v1,v2,_,h1,h2⟩:=d;rw [SV.bel,q1J h1,q1J h2];rfl
 |.iface T x,_,d=>by rw [SV.den] at d;obtain ⟨u,_,h1⟩:=d;rw [SV.bel];exact z5M h1
theorem q1J{C:Cx}:∀ {l:List SV} {vs:List Value},SV.denL C l vs→SV.belL C.n l=true
 | [],_,_=>rfl
 |s :: l,_,d=>by rw [SV.denL] at d;obtain ⟨v,us,_,h1,h2⟩:=d;rw [SV.belL,z5M h1,q1J h2];rfl
end
theorem q5i{C:Cx}{h:Nat}{o:SObj}(d:objDen C h o):o.bel C.n=true:=by
 cases o with
 |cells T cs=>obtain ⟨b,vs,_,_,hl⟩:=d;exact q1J hl
 |_=>rfl

mutual
theorem z2p:∀ (s:SV),s.ren (fun h=>h)=s
 |.any=>rfl
 |.raw _=>rfl
 |.isl _ _=>rfl
 |.fsl _ _=>rfl
 |.iptr _ _ _=>rfl
 |.dat _ _=>rfl
 |.ptr .. =>rfl
 |.rptr .. =>rfl
 |.bld .. =>rfl
 |.osl .. =>rfl
 |.csl .. =>rfl
 |.mp _=>rfl
 |.imap .. =>rfl
 |.agg l=>by rw [SV.ren,q5a]
 |.tup l=>by rw [SV.ren,q5a]
 |.fn f a b=>by rw [SV.ren,q5a,q5a]
 |.iface T x=>by rw [SV.ren,z2p]
theorem q5a:∀ (l:List SV),SV.renL (fun h=>h) l=l
 | []=>rfl
 |s :: l=>by rw [SV.renL,z2p,q5a]
end
theorem q1E(o:SObj):o.ren (fun h=>h)=o:=by cases o<;>simp [SObj.ren,q5a]

theorem VCall.drop{f:FuncId}{args:List SV}{s:SV}(hs:s.clean=true)(h:VCall P f args H fun o H'=>o= .ret s∧∃G,H'=H++G)(K:Out→List SObj→Prop)(hk:K (.ret s) H):VCall P f args H K:=by
 intro C vs hw ht hv;refine (h C vs hw ht hv).mono ?_;rintro e w' ⟨o,H',C',⟨rfl,G,rfl⟩,rfl,hw',hx,v,rfl,hd⟩
 let D:Cx:={C' with n:=H.length}
 have hget:∀ {h' o},H[h']?=some o→(H++G)[h']?=some o:=fun hh=>by rw [Ak (Af.1 hh).1];exact hh
 have hown:∀b,OwnB D H b→OwnB C' (H++G) b:=fun b ⟨h',o,ho,hl,hb⟩=>⟨h',o,hget ho,hl,hb⟩;have hev:Evo C D:=⟨by rw [hw.n];exact Ag _,hx.evo.ρ,hx.evo.I,hx.evo.sz⟩
 refine ⟨.ret s,H,D,hk,rfl,⟨rfl,fun h' o ho=> ?_,fun b hb=>hw'.own b (hown b hb),fun h1 h2 o o' b g1 g2=>hw'.inj h1 h2 o o' b (hget g1) (hget g2),hw'.imm⟩,⟨hev,hx.size,hx.os,hx.tape,hx.output,hx.frame,hx.immNew,fun b hb=>hx.ownNew b (hown b hb),fun _ _ h=>h⟩,v,rfl,q0C (C:=C') (C':=D) (Keeps.refl _ _) hs hd⟩;have hb:=q5i (hw.obj h' o ho);rw [hw.n] at hb;have:=objRen (σ:=fun h=>h) (n:=H.length) hb (by rw [q1E];exact hw'.obj h' o (hget ho))
 exact this

def PCH(P:Program)(f:FuncId)(args:List SV)(s:SV)(H:List SObj):Prop:=enters P f=true∧∀K:Out→List SObj→Prop,K (.ret s) H→VCall P f args H K
theorem PC.at{f:FuncId}{args:List SV}{s:SV}(h:PC P f args s)(H:List SObj):PCH P f args s H:=⟨h.1,h.2 H⟩
def Frz(hd:Nat)(K:Out→List SObj→Prop):Out→List SObj→Prop
 |.ret s,H'=>match H'[hd]? with
  |some (.row t xs)=>xs.length≤1125899906842624∧frzObH hd t xs H'∧s.frzOb hd t xs∧K (.ret (s.frz hd t xs)) (frzH hd t xs H')
  |_=>False
 |.pan s,H'=>K (.pan s) H'
theorem VCall.frz{f:FuncId}{args:List SV}{K:Out→List SObj→Prop}(hd:Nat)(h:VCall P f args H (Frz hd K)):VCall P f args H K:=by
 intro C vs hw ht hv;refine (h C vs hw ht hv).mono ?_;rintro e w' ⟨o,H',C',hk,rfl,hw',hx,hd'⟩;cases o with
 |pan s=>exact ⟨.pan s,H',C',hk,rfl,hw',hx,hd'⟩
 |ret s=>
  simp only [Frz] at hk;split at hk
  · rename_i t xs hH;obtain ⟨k1,k2,k3,k4⟩:=hk;obtain ⟨g1,g2⟩:=z5B hw' hx hH k1 k2;obtain ⟨v,rfl,hd'⟩:=hd';exact ⟨.ret (s.frz hd t xs),frzH hd t xs H',C'.frz hd,k4,rfl,g1,g2,v,rfl,q4l hw' hH k1 k3 hd'⟩
  exact hk.elim
def FrzM(K:Out→List SObj→Prop)(H:List SObj):Out→List SObj→Prop
 |.ret (.mp h),H'=>∃kk ks vs G,h=H.length∧H'=H++ .map kk ks vs :: G∧K (.ret (.imap kk ks vs)) H
 |_,_=>False
theorem VCall.frzM{f:FuncId}{args:List SV}{K:Out→List SObj→Prop}(h:VCall P f args H (FrzM K H)):VCall P f args H K:=by
 intro C vs hw ht hv;refine (h C vs hw ht hv).mono ?_;rintro e w' ⟨o,H',C',hk,rfl,hw',hx,hd'⟩;unfold FrzM at hk;split at hk
 · obtain ⟨kk,ks,ms,G,rfl,rfl,hk⟩:=hk;obtain ⟨v,rfl,hd'⟩:=hd';rw [SV.den] at hd';obtain ⟨_,b,hb,rfl⟩:=hd';have hget':(H++ .map kk ks ms :: G)[H.length]?=some (.map kk ks ms):=by simp
   obtain ⟨b',hb',hm⟩:=hw'.obj H.length _ hget';rw [hb] at hb';cases hb';have hob:OwnB C' (H++ .map kk ks ms :: G) b:=⟨H.length,_,hget',rfl,hb⟩
   let D:Cx:={C' with n:=H.length,I:=fun x=>C'.I x∨x=b}
   have hget:∀ {h' o},H[h']?=some o→(H++ .map kk ks ms :: G)[h']?=some o:=fun hh=>by rw [Ak (Af.1 hh).1];exact hh
   have hown:∀x,OwnB D H x→OwnB C' (H++ .map kk ks ms :: G) x∧x≠b:=fun x ⟨h',o,ho,hl,hx⟩=>⟨⟨h',o,hget ho,hl,hx⟩,fun e=>by
    subst e;have:=hw'.inj h' H.length _ _ x (hget ho) hget' hl rfl hx hb;have hlt:=(Af.1 ho).1
    omega⟩
   have hev:Evo C D:=⟨by rw [hw.n];exact Ag _,hx.evo.ρ,fun x hxI=>⟨.inl (hx.evo.I x hxI).1,(hx.evo.I x hxI).2⟩,hx.evo.sz⟩
   have hkeep:Keeps C'.I D.I C'.w D.w:=fun x hxI=>⟨.inl hxI,rfl⟩;refine ⟨.ret (.imap kk ks ms),H,D,hk,rfl,⟨rfl,fun h' o ho=> ?_,fun x hxo=> ?_,fun h1 h2 o o' x g1 g2=>hw'.inj h1 h2 o o' x (hget g1) (hget g2),?_⟩,⟨hev,hx.size,hx.os,hx.tape,hx.output,hx.frame,?_,fun x hxo=>hx.ownNew x (hown x hxo).1,fun _ _ h=>h⟩,.map (some b),rfl,by rw [SV.den];exact ⟨b,rfl,.inr rfl,hm⟩⟩
   · have hbel:=q5i (hw.obj h' o ho);rw [hw.n] at hbel;have h1:objDen (C'.ren (fun h=>h) H.length) h' o:=objRen (σ:=fun h=>h) (n:=H.length) hbel (by rw [q1E];exact hw'.obj h' o (hget ho))
     have he:Evo (C'.ren (fun h=>h) H.length) D:=⟨Ag _,fun _ _=>rfl,hkeep,fun _ _ h=>h⟩;exact q0z he.I h' rfl (fun _ _=>rfl) (q0n he) h1
   · obtain ⟨h1,h2⟩:=hown x hxo;have:=hw'.own x h1;exact ⟨fun hi=>hi.elim this.1 h2,this.2⟩
   · rintro x (hx'|rfl)
     · exact hw'.imm x hx'
     exact (hw'.own _ hob).2
   rintro x (hx'|rfl)
   · exact hx.immNew x hx'
   exact .inr ⟨hx.ownNew _ hob,(q4j hw' hob:Unf C'.w _)⟩
 exact hk.elim
theorem j2z{f:FuncId}{args:List SV}{K:Out→List SObj→Prop}(h:VC P f args H (FrzM K H)):VC P f args H K:=⟨h.1,VCall.frzM h.2⟩

theorem z0c{P:Program}{k:List It}{tm:List SV}(i:Nat)(ty:Ty)(hi:tm[i]?=some (.raw (.slice none 0 0)))(hs:Sound P AQ ⟨k0,k,tm.set i (.bld H.length ty 0),H++ [.row ty []]⟩):Sound P AQ ⟨k0,k,tm,H⟩:=by
 intro E r n C a h0 hd;obtain ⟨C',hw,g1,g2,g3⟩:=z1U (t:=ty) hd.wd;have:=hs E r n C' a h0 ⟨g1,hd.ext.trans g2,DefOk.next g2 hd.defs,?_⟩
 · rw [←hw];exact this
 have h1:=q0n g2.evo hd.tmps;obtain ⟨v,hv,hd'⟩:=q1Y h1 hi;rw [SV.den] at hd';subst hd';have:=q2Y (i:=i) h1 g3;have he:a.tmps.toList.set i (.slice none 0 0)=a.tmps.toList:=by
  apply Br;intro j;by_cases e:j=i
  · subst e;rw [Av (Af.1 hv).1,hv]
  rw [Ap (Ne.symm e)]
 rwa [he] at this
theorem z5G(i:Nat)(ty:Ty){td:List IT}(hp:plainT td=true)(hi:t[i]?=some (.raw (.slice none 0 0)))(h:SoundI P AQ ⟨k0,td,t.set i (.bld H.length ty 0),H++ [.row ty []]⟩):SoundI P AQ ⟨k0,td,t,H⟩:=
 q0f (fun _ hr=>z0c i ty hi (q0h h hr)) hp

theorem z0V{C:Cx}{h:Nat}{t:Ty}{xs:List t.den}(hw:Wd C H)(hH:H[h]?=some (.row t xs)):Wd (C.frz h) (H.set h .dead)∧Ext ⟨C,H⟩ (C.frz h) (H.set h .dead):=by
 have hob:∀b,C.ρ h=some b→OwnB C H b:=fun b hb=>⟨h,_,hH,rfl,hb⟩;have hget:∀ {i y},(H.set h .dead)[i]?=some y→y.live=true→i≠h∧H[i]?=some y:=fun {i y} hy hl=>by
  by_cases e:i=h
  · subst e;rcases AJ i H.length with h1|h1
    · rw [Av h1] at hy;cases hy;simp [SObj.live] at hl
    rw [AS (by simpa using h1)] at hy;cases hy
  rw [Ap (Ne.symm e)] at hy;exact ⟨e,hy⟩
 have hown:∀b,OwnB (C.frz h) (H.set h .dead) b→OwnB C H b∧C.ρ h≠some b:=by
  rintro b ⟨i,y,hy,hl,hb⟩;obtain ⟨hne,hy'⟩:=hget hy hl;exact ⟨⟨i,y,hy',hl,hb⟩,fun e=>hne (hw.inj i h y _ b hy' hH hl rfl hb e)⟩
 refine ⟨⟨by simp [Cx.frz,hw.n],fun i y hy=> ?_,fun b hb=> ?_,fun i j y y' b hy hy' hl hl' hb hb'=> ?_,?_⟩,⟨q0J C h,Ag _,rfl,rfl,rfl,fun _ _ _=>rfl,?_,fun b hb=>.inr (hown b hb).1,fun _ _ hn=>q3O hH rfl hn⟩⟩
 · by_cases hl:y.live=true
   · exact q0z (q0J C h).I i rfl (fun _ _=>rfl) (q0n (q0J C h)) (hw.obj i y (hget hy hl).2)
   cases y<;>first|trivial|simp [SObj.live] at hl
 · obtain ⟨h1,h2⟩:=hown b hb;have:=hw.own b h1;exact ⟨fun hi=>hi.elim this.1 h2,this.2⟩
 · exact hw.inj i j y y' b (hget hy hl).2 (hget hy' hl').2 hl hl' hb hb'
 · rintro b (hb|hb)
   · exact hw.imm b hb
   exact (hw.own b (hob b hb)).2
 rintro b (hb|hb)
 · exact .inl hb
 exact .inr ⟨.inr (hob b hb),(q4j hw (hob b hb):Unf C.w b)⟩
theorem VCall.hand{f:FuncId}{args:List SV}{K:Out→List SObj→Prop}(h:Nat){t:Ty}{xs:List t.den}(hH:H[h]?=some (.row t xs))(hlen:xs.length≤1125899906842624)(ho:SV.frzObL h t xs args)
 (hc:VCall P f (SV.frzL h t xs args) (H.set h .dead) K):VCall P f args H K:=by
 intro C vs hw ht hv;obtain ⟨g1,g2⟩:=z0V hw hH;refine (hc (C.frz h) vs g1 (ht.next g2) (q1Z hw hH hlen ho hv)).mono ?_
 rintro e w' ⟨o,H',C',hk,rfl,hw',hx,hd'⟩;exact ⟨o,H',C',hk,rfl,hw',g2.trans hx,hd'⟩
theorem VCallG.hand{f:FuncId}{args:List SV}{K:Out→List SObj→Prop}(h:Nat){t:Ty}{xs:List t.den}(hH:H[h]?=some (.row t xs))(hlen:xs.length≤1125899906842624)(ho:SV.frzObL h t xs args)
 (hc:VCallG P f (SV.frzL h t xs args) (H.set h .dead) K):VCallG P f args H K:=by
 intro E C vs hw hg hv;obtain ⟨g1,g2⟩:=z0V hw hH;refine (hc E (C.frz h) vs g1 (Ghost.next g2 hg) (q1Z hw hH hlen ho hv)).mono ?_
 rintro e w' ⟨o,H',C',hk,rfl,hw',hx,hd'⟩;exact ⟨o,H',C',hk,rfl,hw',(Stp.of g2).trans hx,hd'⟩
def handC(h:Nat)(args:List SV)(H:List SObj)(k:List SV→List SObj→Prop):Prop:=match H[h]? with
 |some (.row t xs)=>xs.length≤1125899906842624∧SV.frzObL h t xs args∧k (SV.frzL h t xs args) (H.set h .dead)
 |_=>False
theorem q0q{f:FuncId}{args:List SV}{d:Option Tmp}{m:IM}(h:Nat)(hc:handC h args m.heap fun args' H'=>CallI P AQ f args' d {m with heap:=H'}):CallI P AQ f args d m:=by
 unfold handC at hc;split at hc
 · rename_i t xs hH;exact ⟨hc.2.2.1,VCallG.hand h hH hc.1 hc.2.1 hc.2.2.2⟩
 exact hc.elim
theorem q0B{G:List Nat}{f:FuncId}{args:List SV}{d:Option Tmp}{m:IM}(h:Nat)(hG:G.contains h=false)(hc:handC h args m.heap fun args' H'=>CallR P AQ G f args' d {m with heap:=H'}):CallR P AQ G f args d m:=by
 unfold handC at hc;split at hc
 · rename_i t xs hH;refine ⟨hc.2.2.1,VCallG.hand h hH hc.1 hc.2.1 (hc.2.2.2.mono fun o H' ho=> ?_)⟩;have hs:SameG G m.heap (m.heap.set h .dead):=fun i hi=>by
    rw [Ap];rintro rfl;have:G.contains h=true:=by simpa using hi
    rw [this] at hG;cases hG
   cases o with
   |ret s=>exact ⟨fun hg=>hs.trans (ho.1 hg),ho.2⟩
   |pan s=>exact ho
 exact hc.elim

theorem q4c:∀ (l:List Value),SV.cleanL (rawL l)=true
 | []=>rfl
 |_ :: l=>by rw [rawL,AL,SV.cleanL,SV.clean,Bool.true_and];exact q4c l

theorem getA{α:Type}(G R:List α)(k:Nat):(G++R)[G.length+k]?=R[k]?:=by rw [Ao (by omega)];congr 1;omega
theorem getA0{α:Type}(G R:List α):(G++R)[G.length]?=R[0]?:=getA G R 0
theorem setA{α:Type}(G R:List α)(k:Nat)(x:α):(G++R).set (G.length+k) x=G++R.set k x:=by rw [Ch _ _ (by omega)];congr 2;omega
theorem setA0{α:Type}(G R:List α)(x:α):(G++R).set G.length x=G++R.set 0 x:=setA G R 0 x
theorem j3l{α:Type}(l:List α)(a:α):(l++ [a])[l.length]?=some a:=by simp
theorem j1B{α:Type}(l:List α)(a b:α):(l++ [a]).set l.length b=l++ [b]:=by simp
theorem z1H{α:Type}(l:List α)(a:α):(l++ [a]).length=l.length+1:=by simp
theorem wrapi{n:Int}(h: -9223372036854775808≤n∧n≤9223372036854775807):IntKind.i64.wrap n=n:=IntWalk.i64_in n h
theorem q2v{α:Type}{l:List α}{i:Nat}{d:α}(h:i<l.length):l.take (i+1)=l.take i++ [l.getD i d]:=by
 rw [CE,Aa,Ae h];rfl
theorem cast0:((0:Nat):Int)=0:=rfl
attribute [go_sem] handC FrzM Frz frzObH SObj.frzOb SV.frzOb SV.frzObL SV.frz SV.frzL frzH SObj.frz List.map_append Int.toNat_natCast cast0 j3l j1B z1H setMany maskT leM leM1 IC.wr OpI.wr List.flatMap_cons List.flatMap_nil Option.toList_some Option.toList_none List.foldl_cons List.foldl_nil
theorem sxaE{p q:Prop}(h:q)(e:p=q:=by (simp (maxSteps:=3000000) only [List.append_assoc,getA,getA0,setA,setA0,Ad,Nat.add_assoc,go_sem,↓zA,↓reduceIte,↓reduceDIte];(try simp only [zB]);rfl)):p:=Eq.mpr e h
theorem goaE{P:Program}{AQ:Ex→List SV→List SObj→Prop}{m:IM}{q:Prop}(hm:P.follows .mixedOrders=true)(h:q)(e:run P AQ 600 m=q:=by (simp (maxSteps:=3000000) only [List.append_assoc,getA,getA0,setA,setA0,Ad,Nat.add_assoc,go_sem,↓zA,↓reduceIte,↓reduceDIte];(try simp only [zB]);rfl)):SoundI P AQ m:=q0r hm 600 m (Eq.mpr e h)
theorem wsx(i:Nat)(h:i<4611686018427387904):IntKind.i64.wrap ((i:Int)+1)=((i+1:Nat):Int):=q2T h
end Go.Sx
namespace Go.Sx
open Go

variable [Ghost] {P:Program} {AQ:Ex→List SV→List SObj→Prop} {k0:Nat} {k:List IT} {t:List SV} {H:List SObj}

theorem q9m{n:Nat}{s:SV}(hs:s.bel n=true):∀ {l:List SV} (i:Nat),SV.belL n l=true→SV.belL n (l.set i s)=true
 | [],_,h=>h
 |x :: l,0,h=>by rw [Cb,SV.belL] at*;simp only [Am] at*;exact ⟨hs,h.2⟩
 |x :: l,i+1,h=>by rw [List.set_cons_succ,SV.belL] at*;simp only [Am] at*;exact ⟨h.1,q9m hs i h.2⟩
theorem q2B{n:Nat}:∀ (ws:List Nat) {l:List SV},SV.belL n l=true→SV.belL n (maskT ws l)=true
 | [],_,h=>h
 |d :: ws,l,h=>by
  simp only [maskT,B9];exact q2B ws (q9m (s:=.any) rfl d h)
theorem q2S{n:Nat}:∀ (u:List (Nat×SV)) {l:List SV},(u.all fun x=>x.2.bel n)=true→SV.belL n l=true→SV.belL n (setMany l u)=true
 | [],_,_,h=>h
 | (i,s) :: u,l,hu,h=>by
  simp only [B7,Am] at hu;exact q2S u hu.2 (q9m hu.1 i h)
theorem q7c{n:Nat}:∀ {L:List SObj},(∀ (h:Nat) (o:SObj),L[h]?=some o→o.bel n=true)→belH n L=true
 | [],_=>rfl
 |o :: l,h=>by
  simp only [belH,Am];exact ⟨h 0 o rfl,q7c fun i x hx=>h (i+1) x (by simpa using hx)⟩
theorem q6s:∀ {l l':List SV},leM l l'→leT (fun h=>h) l l'
 | [],[],_=>trivial
 |s :: l,s' :: l',h=>by
  refine ⟨?_,q6s h.2⟩;have:=h.1;cases s'<;>first|trivial| (simp only [leM1] at this;simp only [leS];rw [this];rw [z2p])
 | [],_ :: _,h=>h.elim
 |_ :: _,[],h=>h.elim
theorem z3y{H A B:List SObj}{x:SObj}(h0:0<H.length)(h:(H++A)[0]?=some x):(H++B)[0]?=some x:=by
 rw [Ak h0] at h⊢;exact h
theorem q9M{σ:Nat→Nat}{t':List SV}{H':List SObj}{E:EnD}{C:Cx}{a:Act}(he:E.C.n≤k0)(hd:Den E C t H a)(tm:leT σ t t')(bt:SV.belL H'.length t'=true)
 (hp:∀h o,H'[h]?=some o→o.live=true→H[σ h]?=some (o.ren σ))(bh:belH H'.length H'=true)(inj:∀h h' o o',H'[h]?=some o→H'[h']?=some o'→o.live=true→o'.live=true→σ h=σ h'→h=h')(fix:∀h,h<k0→σ h=h)(len:k0≤H'.length)(mk:∀n,0<E.C.n→H[0]?=some (.mark n)→H'[0]?=some (.mark n)):
 Den E (C.ren σ H'.length) t' H' a:=by
 have hown:∀b,OwnB (C.ren σ H'.length) H' b→OwnB C H b:=by
  rintro b ⟨i,o,ho,hl,hb⟩;exact ⟨σ i,_,hp i o ho hl,by rw [q1a];exact hl,hb⟩
 have hevo:Evo E.C (C.ren σ H'.length):=⟨AA he len,fun x hx=>by simp only [Cx.ren];rw [fix x (by omega)];exact hd.ext.evo.ρ x hx,hd.ext.evo.I,hd.ext.evo.sz⟩
 refine ⟨⟨rfl,?_,fun b hb=>hd.wd.own b (hown b hb),?_,hd.wd.imm⟩,⟨hevo,hd.ext.size,hd.ext.os,hd.ext.tape,hd.ext.output,hd.ext.frame,hd.ext.immNew,fun b hb=>hd.ext.ownNew b (hown b hb),fun n h0 hn=>mk n h0 (hd.ext.keep0 n h0 hn)⟩,?_,z1f tm bt hd.tmps⟩
 · intro i o ho;by_cases hl:o.live=true
   · exact objRen (q3P bh ho) (hd.wd.obj _ _ (hp i o ho hl))
   cases o<;>first|trivial|simp [SObj.live] at hl
 · intro i j o o' b ho ho' hl hl' hb hb';exact inj i j o o' ho ho' hl hl' (hd.wd.inj (σ i) (σ j) _ _ b (hp i o ho hl) (hp j o' ho' hl') (by rw [q1a];exact hl) (by rw [q1a];exact hl') hb hb')
 exact ⟨hd.defs.1,Ghost.same hd.wd rfl (fun _ h=>h) (fun _ hb=>.inl hb) hown mk hevo.n hd.defs.2⟩

def RoundD(H:List SObj)(S:Nat→List SV)(n:Nat)(p:Nat→Prop)(i:Nat):List SV→List SObj→Prop:=
 fun t' H'=>i<n∧p (i+1)∧(∃G,H'=H++G)∧leM t' (S (i+1))
theorem z1T{P:Program}{k:List It}(c:Code)(S:Nat→List SV)(n:Nat)(p:Nat→Prop)(h₀:p 0)(hs:leM t (S 0))(hk:k0≤H.length)(hb:SV.belL H.length t=true→∀i,SV.belL H.length (S i)=true)
 (round:∀i,i≤n→p i→Sound P AQ ⟨k0,.code c :: .stop (RoundD H S n p i) :: k,S i,H⟩):Sound P AQ ⟨k0,.code (.loop c) :: k,t,H⟩:=fun E r m C a h0 hd=>by
 have hbt:∀i,SV.belL H.length (S i)=true:=hb (by have:=q1J hd.tmps;rwa [hd.wd.n] at this)
 have hbh:belH H.length H=true:=q7c fun h o ho=>by have:=q5i (hd.wd.obj h o ho);rwa [hd.wd.n] at this
 simp only [wpT];refine q0N (fun m a w=>∃i,i≤n∧p i∧n-i=m∧∃C,C.w=w∧Den E C (S i) H a) n ⟨0,Ai _,h₀,rfl,C,rfl,hd.wd,hd.ext,hd.defs,q3o (q3v hs) hd.tmps⟩ ?_;rintro m' a w ⟨i,hi,hp,rfl,C,rfl,hd⟩;have h1:=round i hi hp E r m C a h0 hd;simp only [wpT] at h1;refine wpIn_mono h1 fun e a w hq=> ?_;cases e with
 |normal=>
  obtain ⟨C',t',H',⟨hlt,hp',⟨G,rfl⟩,hS⟩,rfl,hd'⟩:=hq;refine ⟨n- (i+1),by omega,i+1,hlt,hp',rfl,C'.ren (fun h=>h) H.length,rfl,?_⟩
  exact q9M h0.1 hd' (q6s hS) (hbt _) (fun h o ho _=>by rw [q1E,Ak (Af.1 ho).1];exact ho) hbh (fun _ _ _ _ _ _ _ _ e=>e) (fun _ _=>rfl) hk (fun _ hp hn=>by rw [Ak (An hp (AA h0.1 hk))] at hn;exact hn)
 |exit id=>simpa only [Exit.then,exitT] using hq
 |_=>exact hq
theorem q4m{c:IC}(upd:Nat→List (Nat×SV))(n:Nat)(q:Nat→Prop)(hk:k0≤H.length)(hu:∀i,((upd i).all fun x=>x.2.bel H.length)=true)(hs:leM t (setMany (maskT c.wr t) (upd 0)))
 (round:∀i,i≤n→(∀j,j<i→q j)→SoundI P AQ ⟨k0,.ic c :: .stop (RoundD H (fun i=>setMany (maskT c.wr t) (upd i)) n (fun i=>∀j,j<i→q j) i) :: k,setMany (maskT c.wr t) (upd i),H⟩):
 SoundI P AQ ⟨k0,.ic (.loop c) :: k,t,H⟩:=q0f (fun td' hr=>by
 obtain ⟨c',r,rfl,hc,hr⟩:=hr;obtain ⟨x,rfl,hx⟩:=q0E hc
 exact z1T x _ n _ (fun j hj=>absurd hj (Bp j)) hs hk (fun hb i=>q2S _ (hu i) (q2B _ hb)) (fun i hi hp=>q0h (round i hi hp) ⟨x,_,rfl,hx,r,rfl,hr⟩)) rfl
def RoundG{ι:Type}(Hf:ι→List SObj)(S:ι→List SV)(μ:ι→Nat)(p:ι→Prop)(i:ι):List SV→List SObj→Prop:=
 fun t' H'=>∃j,p j∧μ j<μ i∧(∃G,H'=Hf j++G)∧leM t' (S j)
theorem z1A{P:Program}{k:List It}{ι:Type}(c:Code)(S:ι→List SV)(Hf:ι→List SObj)(μ:ι→Nat)(p:ι→Prop)(i₀:ι)(h₀:p i₀)(N:Nat)(hH:H=Hf i₀)(hk:k0≤N)(hN:∀i,(Hf i).length=N)(hB:∀i,belH N (Hf i)=true)(hs:leM t (S i₀))(hb:SV.belL N t=true→∀i,SV.belL N (S i)=true)
 (round:∀i,p i→Sound P AQ ⟨k0,.code c :: .stop (RoundG Hf S μ p i) :: k,S i,Hf i⟩):Sound P AQ ⟨k0,.code (.loop c) :: k,t,H⟩:=fun E r m C a h0 hd=>by
 subst hH;have hbt:∀i,SV.belL N (S i)=true:=hb (by have:=q1J hd.tmps;rwa [hd.wd.n,hN] at this)
 simp only [wpT];refine q0N (fun m a w=>∃i,p i∧μ i=m∧∃C,C.w=w∧Den E C (S i) (Hf i) a) (μ i₀) ⟨i₀,h₀,rfl,C,rfl,hd.wd,hd.ext,hd.defs,q3o (q3v hs) hd.tmps⟩ ?_;rintro m' a w ⟨i,hp,rfl,C,rfl,hd⟩;have h1:=round i hp E r m C a h0 hd;simp only [wpT] at h1;refine wpIn_mono h1 fun e a w hq=> ?_;cases e with
 |normal=>
  obtain ⟨C',t',H',⟨j,hp',hlt,⟨G,rfl⟩,hS⟩,rfl,hd'⟩:=hq;refine ⟨μ j,hlt,j,hp',rfl,C'.ren (fun h=>h) (Hf j).length,rfl,?_⟩;exact q9M h0.1 hd' (q6s hS) (by rw [hN];exact hbt _) (fun h o ho _=>by rw [q1E,Ak (Af.1 ho).1];exact ho) (by rw [hN];exact hB j) (fun _ _ _ _ _ _ _ _ e=>e) (fun _ _=>rfl) (by rw [hN];exact hk) (fun _ hp hn=>by rw [Ak (by rw [hN];exact An hp (AA h0.1 hk))] at hn;exact hn)
 |exit id=>simpa only [Exit.then,exitT] using hq
 |_=>exact hq
theorem q1q{ι:Type}{c:IC}(upd:ι→List (Nat×SV))(Hf:ι→List SObj)(μ:ι→Nat)(p:ι→Prop)(i₀:ι)(h₀:p i₀)(N:Nat)(hH:H=Hf i₀)(hk:k0≤N)(hN:∀i,(Hf i).length=N)(hB:∀i,belH N (Hf i)=true)(hu:∀i,((upd i).all fun x=>x.2.bel N)=true)(hs:leM t (setMany (maskT c.wr t) (upd i₀)))
 (round:∀i,p i→SoundI P AQ ⟨k0,.ic c :: .stop (RoundG Hf (fun i=>setMany (maskT c.wr t) (upd i)) μ p i) :: k,setMany (maskT c.wr t) (upd i),Hf i⟩):SoundI P AQ ⟨k0,.ic (.loop c) :: k,t,H⟩:=q0f (fun td' hr=>by
 obtain ⟨c',r,rfl,hc,hr⟩:=hr;obtain ⟨x,rfl,hx⟩:=q0E hc
 exact z1A x _ Hf μ p i₀ h₀ N hH hk hN hB hs (fun hb i=>q2S _ (hu i) (q2B _ hb)) (fun i hi=>q0h (round i hi) ⟨x,_,rfl,hx,r,rfl,hr⟩)) rfl
theorem q0O{q:Nat→Prop}{i:Nat}(hall:∀j,j<i→q j)(h:q i):∀j,j<i+1→q j:=fun j hj=>by
 by_cases e:j=i
 · subst e;exact h
 exact hall j (by omega)

def shift(n m h:Nat):Nat:=if h=n then m else h
def RoundA(H:List SObj)(ty:Ty)(S:Nat→List SV)(xs:Nat→List ty.den)(n:Nat)(p:Nat→Prop)(i:Nat):List SV→List SObj→Prop:=
 fun t' H'=>i<n∧p (i+1)∧∃G G',H'=H++G++ [.row ty (xs (i+1))]++G'∧leT (shift H.length (H.length+G.length)) t' (S (i+1))
theorem z6I{n m:Nat}:(∀ {s:SV},s.bel n=true→s.ren (shift n m)=s)∧(∀ {l:List SV},SV.belL n l=true→SV.renL (shift n m) l=l):=by
 have hlt:∀h,decide (h<n)=true→shift n m h=h:=fun h hh=>by unfold shift;rw [if_neg (by have:=of_decide_eq_true hh;omega)]
 refine ⟨fun {s}=> ?_,fun {l}=> ?_⟩
 · exact SV.rec (motive_1:=fun s=>s.bel n=true→s.ren (shift n m)=s) (motive_2:=fun l=>SV.belL n l=true→SV.renL (shift n m) l=l)
    (by intro h;rw [SV.ren]) (by intros;rw [SV.ren]) (by intros;rw [SV.ren]) (by intros;rw [SV.ren]) (by intros;rw [SV.ren]) (fun h _ hb=>by rw [SV.bel] at hb;rw [SV.ren,hlt _ hb]) (fun h _ _ _ hb=>by rw [SV.bel] at hb;rw [SV.ren,hlt _ hb]) (fun h _ _ hb=>by rw [SV.bel] at hb;rw [SV.ren,hlt _ hb]) (fun h _ _ _ hb=>by rw [SV.bel] at hb;rw [SV.ren,hlt _ hb]) (fun h _ _ _ _ hb=>by rw [SV.bel] at hb;rw [SV.ren,hlt _ hb]) (by intros;rw [SV.ren])
    (fun l ih hb=>by rw [SV.bel] at hb;rw [SV.ren,ih hb]) (fun l ih hb=>by rw [SV.bel] at hb;rw [SV.ren,ih hb]) (fun f a b iha ihb hb=>by rw [SV.bel,Am] at hb;rw [SV.ren,iha hb.1,ihb hb.2]) (fun T x ih hb=>by rw [SV.bel] at hb;rw [SV.ren,ih hb]) (fun h hb=>by rw [SV.bel] at hb;rw [SV.ren,hlt _ hb]) (by intros;rw [SV.ren])
    (fun _=>by rw [SV.renL]) (fun s l ihs ihl hb=>by rw [SV.belL,Am] at hb;rw [SV.renL,ihs hb.1,ihl hb.2]) s
 exact SV.rec_1 (motive_1:=fun s=>s.bel n=true→s.ren (shift n m)=s) (motive_2:=fun l=>SV.belL n l=true→SV.renL (shift n m) l=l)
  (by intro h;rw [SV.ren]) (by intros;rw [SV.ren]) (by intros;rw [SV.ren]) (by intros;rw [SV.ren]) (by intros;rw [SV.ren]) (fun h _ hb=>by rw [SV.bel] at hb;rw [SV.ren,hlt _ hb]) (fun h _ _ _ hb=>by rw [SV.bel] at hb;rw [SV.ren,hlt _ hb]) (fun h _ _ hb=>by rw [SV.bel] at hb;rw [SV.ren,hlt _ hb]) (fun h _ _ _ hb=>by rw [SV.bel] at hb;rw [SV.ren,hlt _ hb]) (fun h _ _ _ _ hb=>by rw [SV.bel] at hb;rw [SV.ren,hlt _ hb]) (by intros;rw [SV.ren])
  (fun l ih hb=>by rw [SV.bel] at hb;rw [SV.ren,ih hb]) (fun l ih hb=>by rw [SV.bel] at hb;rw [SV.ren,ih hb]) (fun f a b iha ihb hb=>by rw [SV.bel,Am] at hb;rw [SV.ren,iha hb.1,ihb hb.2]) (fun T x ih hb=>by rw [SV.bel] at hb;rw [SV.ren,ih hb]) (fun h hb=>by rw [SV.bel] at hb;rw [SV.ren,hlt _ hb]) (by intros;rw [SV.ren])
  (fun _=>by rw [SV.renL]) (fun s l ihs ihl hb=>by rw [SV.belL,Am] at hb;rw [SV.renL,ihs hb.1,ihl hb.2]) l
theorem z0Q{P:Program}{k:List It}(c:Code)(ty:Ty)(S:Nat→List SV)(xs:Nat→List ty.den)(n:Nat)(p:Nat→Prop)(h₀:p 0)(hs:leM t (S 0))(hk:k0≤H.length)(hx0:xs 0= [])(hbh:belH H.length H=true)(hb:SV.belL (H.length+1) t=true→∀i,SV.belL (H.length+1) (S i)=true)
 (round:∀i,i≤n→p i→Sound P AQ ⟨k0,.code c :: .stop (RoundA H ty S xs n p i) :: k,S i,H++ [.row ty (xs i)]⟩):Sound P AQ ⟨k0,.code (.loop c) :: k,t,H++ [.row ty []]⟩:=fun E r m C a h0 hd=>by
 have hbt:∀i,SV.belL (H.length+1) (S i)=true:=hb (by have:=q1J hd.tmps;rw [hd.wd.n] at this;simpa using this)
 have hbh':∀ys:List ty.den,belH (H.length+1) (H++ [.row ty ys])=true:=fun ys=>q7c fun h o ho=>by
  rcases q0v ho with ⟨_,ho⟩ | ⟨_,rfl⟩
  · have:=q5i (hd.wd.obj h o (by rw [Ak (Af.1 ho).1];exact ho));rw [hd.wd.n] at this;simpa using this
  rfl
 simp only [wpT];refine q0N (fun m a w=>∃i,i≤n∧p i∧n-i=m∧∃C,C.w=w∧Den E C (S i) (H++ [.row ty (xs i)]) a) n ⟨0,Ai _,h₀,rfl,C,rfl,by rw [hx0];exact hd.wd,by rw [hx0];exact hd.ext,by rw [hx0];exact hd.defs,q3o (q3v hs) hd.tmps⟩ ?_
 rintro m' a w ⟨i,hi,hp,rfl,C,rfl,hd⟩;have h1:=round i hi hp E r m C a h0 hd;simp only [wpT] at h1;refine wpIn_mono h1 fun e a w hq=> ?_;cases e with
 |normal=>
  obtain ⟨C',t',H',⟨hlt,hp',G,G',rfl,hS⟩,rfl,hd'⟩:=hq;refine ⟨n- (i+1),by omega,i+1,hlt,hp',rfl,C'.ren (shift H.length (H.length+G.length)) (H++ [SObj.row ty (xs (i+1))]).length,rfl,?_⟩
  have hsh:∀h,h<H.length→shift H.length (H.length+G.length) h=h:=fun h hh=>by unfold shift;rw [if_neg (by omega)]
  have hshn:shift H.length (H.length+G.length) H.length=H.length+G.length:=by unfold shift;rw [if_pos rfl]
  refine q9M h0.1 hd' hS (by simpa using hbt (i+1)) (fun h o ho hl=> ?_) (by simpa using hbh' (xs (i+1))) (fun h h' o o' ho ho' _ _ e=> ?_) (fun h hh=>hsh h (An hh hk)) (by simp;exact Nat.le_succ_of_le hk) (fun _ hp hn=>z3y (An hp (AA h0.1 hk)) (by simpa only [List.append_assoc] using hn))
  · rcases q0v ho with ⟨hh,ho⟩ | ⟨hh,rfl⟩
    · rw [hsh h hh];have hr:o.ren (shift H.length (H.length+G.length))=o:=by
       have hbo:=q3P hbh ho;cases o with
       |cells T cs=>simp only [SObj.ren];rw [z6I.2 (by simpa [SObj.bel] using hbo)]
       |_=>rfl
      rw [hr,List.append_assoc,List.append_assoc,Ak hh];exact ho
    subst hh;rw [hshn];simp [SObj.ren]
  have hlen:∀ {h:Nat} {o:SObj},(H++ [SObj.row ty (xs (i+1))])[h]?=some o→h≤H.length:=fun ho=>by have:=(Af.1 ho).1;simp at this;omega
  have g1:=hlen ho;have g2:=hlen ho';unfold shift at e;split at e<;>split at e<;>omega
 |exit id=>simpa only [Exit.then,exitT] using hq
 |_=>exact hq
theorem j3g{c:IC}(slot:Nat)(ty:Ty)(xs:Nat→List ty.den)(upd:Nat→List (Nat×SV))(n:Nat)(q:Nat→Prop)(hk:k0≤H.length)(hx0:xs 0= [])(hbh:belH H.length H=true)(hu:∀i,((upd i).all fun x=>x.2.bel (H.length+1))=true)
 (hs:leM t (setMany (maskT c.wr t) ((slot,.bld H.length ty 0) :: upd 0)))
 (round:∀i,i≤n→(∀j,j<i→q j)→SoundI P AQ ⟨k0,.ic c :: .stop (RoundA H ty (fun i=>setMany (maskT c.wr t) ((slot,.bld H.length ty (xs i).length) :: upd i)) xs n (fun i=>∀j,j<i→q j) i) :: k,setMany (maskT c.wr t) ((slot,.bld H.length ty (xs i).length) :: upd i),H++ [.row ty (xs i)]⟩):
 SoundI P AQ ⟨k0,.ic (.loop c) :: k,t,H++ [.row ty []]⟩:=q0f (fun td' hr=>by
 obtain ⟨c',r,rfl,hc,hr⟩:=hr;obtain ⟨x,rfl,hx⟩:=q0E hc;refine z0Q x ty _ xs n _ (fun j hj=>absurd hj (Bp j)) (by rw [hx0];exact hs) hk hx0 hbh (fun hb i=>q2S _ ?_ (q2B _ hb)) (fun i hi hp=>q0h (round i hi hp) ⟨x,_,rfl,hx,r,rfl,hr⟩)
 rw [B7,Am]
 exact ⟨by rw [SV.bel];simp,hu i⟩) rfl
attribute [go_sem] leT leS shift SV.ren SV.renL
end Go.Sx
