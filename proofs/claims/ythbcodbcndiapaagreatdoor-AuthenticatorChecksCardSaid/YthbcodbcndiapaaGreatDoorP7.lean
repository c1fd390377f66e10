/- A part of the proof: a symbolic executor over abstract values, and its soundness. -/
import Derived.Test.YthbcodbcndiapaaGreatDoorP6
import Derived.Below
import GoSem.ClaimJoined
import Derived.ChangeArms
import Derived.Carry
import Derived.ChangeSame
import Derived.RowKit
import Derived.RowKit3
set_option linter.all false
namespace Go.Sx
section
open Go

variable [Ghost] {P:Program} {AQ:Ex->List SV->List SObj->Prop} {k0:Nat} {k:List IT} {t:List SV} {H:List SObj}

def leM1(s:SV):SV->Prop
 |.any=>True
 |s'=>s=s'
def leM:List SV->List SV->Prop
 | [],[]=>True
 |s :: l,s' :: l'=>leM1 s s'∧leM l l'
 |_,_=>False
def j3R{s s':SV}(h:leM1 s s'):SV.le s s':=by cases s'<;>first|exact SV.le_any _| (simp only [leM1] at h;subst h;exact SV.le_refl _)
def q3h:∀ {l l':List SV},leM l l'->leL l l'
 | [],[],_=>trivial
 |_ :: _,_ :: _,h=>⟨j3R h.1,q3h h.2⟩
 | [],_ :: _,h=>h.elim
 |_ :: _,[],h=>h.elim
def q4K:∀ (l:List SV),leM l l
 | []=>trivial
 |s :: l=>⟨by cases s<;>simp [leM1],q4K l⟩

def setMany(t:List SV):List (Nat×SV)->List SV
 | []=>t
 | (i,s) :: l=>setMany (t.set i s) l

variable {ι:Type}
def RoundX(Hf:ι->List SObj)(S:ι->List SV)(μ:ι->Nat)(p:ι->Prop)(i:ι):List SV->List SObj->Prop:=
 fun t' H'=>∃j,p j∧μ j<μ i∧H'=Hf j∧leM t' (S j)

def z2r{k:List It}(c:Code)(S:ι->List SV)(Hf:ι->List SObj)(μ:ι->Nat)(p:ι->Prop)(i₀:ι)(h₀:p i₀)(hH:H=Hf i₀)(hs:leM t (S i₀))
 (round:∀i,p i->Sound P AQ ⟨k0,.code c :: .stop (RoundX Hf S μ p i) :: k,S i,Hf i⟩):Sound P AQ ⟨k0,.code (.loop c) :: k,t,H⟩:=fun E r n C a h0 hd=>by
 subst hH;simp only [wpT];refine q0R (fun m a w=>∃i,p i∧μ i=m∧∃C,C.w=w∧Den E C (S i) (Hf i) a) (μ i₀) ⟨i₀,h₀,rfl,C,rfl,hd.wd,hd.ext,hd.defs,q2L (q3h hs) hd.tmps⟩ ?_;rintro m a w ⟨i,hp,rfl,C,rfl,hd⟩;have h1:=round i hp E r n C a h0 hd;simp only [wpT] at h1;refine wpIn_mono h1 fun e a w hq=> ?_;cases e with
 |normal=>obtain ⟨C',t',H',⟨j,hj,hlt,rfl,hS⟩,rfl,hd'⟩:=hq;exact ⟨μ j,hlt,j,hj,rfl,C',rfl,hd'.wd,hd'.ext,hd'.defs,q2L (q3h hS) hd'.tmps⟩
 |exit id=>simpa only [Exit.then,exitT] using hq
 |_=>exact hq

theorem q0k{c:IC}(upd:ι->List (Nat×SV))(Hf:ι->List SObj)(μ:ι->Nat)(p:ι->Prop)(i₀:ι)(h₀:p i₀)(hH:H=Hf i₀)(hs:leM t (setMany (maskT c.wr t) (upd i₀)))
 (round:∀i,p i->SoundI P AQ ⟨k0,.ic c :: .stop (RoundX Hf (fun i=>setMany (maskT c.wr t) (upd i)) μ p i) :: k,setMany (maskT c.wr t) (upd i),Hf i⟩):SoundI P AQ ⟨k0,.ic (.loop c) :: k,t,H⟩:=q0f (fun td' hr=>by
 obtain ⟨c',r,rfl,hc,hr⟩:=hr;obtain ⟨x,rfl,hx⟩:=q0L hc
 exact z2r x _ Hf μ p i₀ h₀ hH hs (fun i hi=>q0g (round i hi) ⟨x,_,rfl,hx,r,rfl,hr⟩)) rfl

theorem q8D{c:IC}(slot n:Nat)(q:Nat->Prop)(hs:leM t (setMany (maskT c.wr t) [(slot,.raw (.int .i64 ((0:Nat):Int)))]))
 (round:∀i,i<=n->(∀j,j<i->q j)->SoundI P AQ ⟨k0,.ic c :: .stop (RoundX (fun _=>H) (fun i=>setMany (maskT c.wr t) [(slot,.raw (.int .i64 ((i:Nat):Int)))]) (fun i=>n-i) (fun i=>i<=n∧∀j,j<i->q j) i) :: k,setMany (maskT c.wr t) [(slot,.raw (.int .i64 ((i:Nat):Int)))],H⟩):
 SoundI P AQ ⟨k0,.ic (.loop c) :: k,t,H⟩:=
 q0k (fun i:Nat=>[(slot,.raw (.int .i64 (i:Int)))]) (fun _=>H) (fun i=>n-i) (fun i=>i<=n∧∀j,j<i->q j) 0 ⟨Al _,fun _ h=>absurd h (Bl _)⟩ rfl hs fun i hi=>round i hi.1 hi.2
variable {i:Nat}
theorem q3l{S:Nat->List SV}{n:Nat}{q:Nat->Prop}(hlt:i<n)(hall:∀j,j<i->q j)(hq:q i)(h:leM t (S (i+1))):RoundX (fun _=>H) S (fun i=>n-i) (fun i=>i<=n∧∀j,j<i->q j) i t H:=
 ⟨i+1,⟨hlt,fun j hj=>by
  by_cases e:j=i
  . subst e;exact hq
  exact hall j (by omega)⟩,by dsimp only;omega,rfl,h⟩
theorem q1w(h:i<4611686018427387904):IntKind.i64.wrap ((i:Int)+1)=((i+1:Nat):Int):=by rw [IntWalk.i64_in _ (by omega)];rfl

mutual
theorem z7S{C:Cx}:∀ {s:SV} {v:Value},s.den C v->s.bel C.n=true
 |.any,_,_=>rfl
 |.raw _,_,_=>rfl
 |.isl _ _,_,_=>rfl
 |.fsl _ _,_,_=>rfl
 |.iptr _ _ _,_,_=>rfl
 |.dat _ _,_,_=>rfl
 |.ptr h off,_,d=>by rw [SV.den] at d;simpa [SV.bel] using d.1
 |.rptr h t i k,_,d=>by rw [SV.den] at d;simpa [SV.bel] using d.1
 |.bld h t m,_,d=>by rw [SV.den] at d;simpa [SV.bel] using d.1
 |.osl h t off m,_,d=>by rw [SV.den] at d;simpa [SV.bel] using d.1
 |.csl h t k i m,_,d=>by rw [SV.den] at d;simpa [SV.bel] using d.1
 |.mp h,_,d=>by rw [SV.den] at d;simpa [SV.bel] using d.1
 |.imap ..,_,_=>rfl
 |.agg l,_,d=>by rw [SV.den] at d;obtain ⟨vs,_,hl⟩:=d;rw [SV.bel];exact q1A hl
 |.tup l,_,d=>by rw [SV.den] at d;obtain ⟨vs,_,hl⟩:=d;rw [SV.bel];exact q1A hl
 |.fn f a b,_,d=>by rw [SV.den] at d;obtain ⟨v1,v2,_,h1,h2⟩:=d;rw [SV.bel,q1A h1,q1A h2];rfl
 |.iface T x,_,d=>by rw [SV.den] at d;obtain ⟨u,_,h1⟩:=d;rw [SV.bel];exact z7S h1
theorem q1A{C:Cx}:∀ {l:List SV} {vs:List Value},SV.denL C l vs->SV.belL C.n l=true
 | [],_,_=>rfl
 |s :: l,_,d=>by rw [SV.denL] at d;obtain ⟨v,us,_,h1,h2⟩:=d;rw [SV.belL,z7S h1,q1A h2];rfl
end
theorem q5D{C:Cx}{h:Nat}{o:SObj}(d:objDen C h o):o.bel C.n=true:=by
 cases o with
 |cells T cs=>obtain ⟨b,vs,_,_,hl⟩:=d;exact q1A hl
 |map kk ks vs=>obtain ⟨b,us,_,_,hl⟩:=d;exact q1A hl
 |_=>rfl

mutual
theorem z3i:∀ (s:SV),s.ren (fun h=>h)=s
 |.any=>rfl
 |.raw _=>rfl
 |.isl _ _=>rfl
 |.fsl _ _=>rfl
 |.iptr _ _ _=>rfl
 |.dat _ _=>rfl
 |.ptr .. =>rfl
 |.rptr .. =>rfl
 |.bld .. =>rfl
 |.osl .. =>rfl
 |.csl .. =>rfl
 |.mp _=>rfl
 |.imap .. =>rfl
 |.agg l=>by rw [SV.ren,q5t]
 |.tup l=>by rw [SV.ren,q5t]
 |.fn f a b=>by rw [SV.ren,q5t,q5t]
 |.iface T x=>by rw [SV.ren,z3i]
theorem q5t:∀ (l:List SV),SV.renL (fun h=>h) l=l
 | []=>rfl
 |s :: l=>by rw [SV.renL,z3i,q5t]
end
def q1J(o:SObj):o.ren (fun h=>h)=o:=by cases o<;>simp [SObj.ren,q5t]

def VCall.drop{f:FuncId}{args:List SV}{s:SV}(hs:s.clean=true)(h:VCall P f args H fun o H'=>o= .ret s∧∃G,H'=H++G)(K:Out->List SObj->Prop)(hk:K (.ret s) H):VCall P f args H K:=by
 intro C vs hw ht hv;refine (h C vs hw ht hv).mono ?_;rintro e w' ⟨o,H',C',⟨rfl,G,rfl⟩,rfl,hw',hx,v,rfl,hd⟩
 let D:Cx:={C' with n:=H.length}
 have hget:∀ {h' o},H[h']?=some o->(H++G)[h']?=some o:=fun hh=>by rw [Ai (Ag.1 hh).1];exact hh
 have hown:∀b,OwnB D H b->OwnB C' (H++G) b:=fun b ⟨h',o,ho,hl,hb⟩=>⟨h',o,hget ho,hl,hb⟩;have hev:Evo C D:=⟨by rw [hw.n];exact Af _,hx.evo.ρ,hx.evo.I,hx.evo.sz⟩
 refine ⟨.ret s,H,D,hk,rfl,⟨rfl,fun h' o ho=> ?_,fun b hb=>hw'.own b (hown b hb),fun h1 h2 o o' b g1 g2=>hw'.inj h1 h2 o o' b (hget g1) (hget g2),hw'.imm⟩,⟨hev,hx.size,hx.os,hx.tape,hx.output,hx.frame,hx.immNew,fun b hb=>hx.ownNew b (hown b hb),fun _ _ h=>h⟩,v,rfl,q0F (C:=C') (C':=D) (Keeps.refl _ _) hs hd⟩;have hb:=q5D (hw.obj h' o ho);rw [hw.n] at hb;have:=objRen (σ:=fun h=>h) (n:=H.length) hb (by rw [q1J];exact hw'.obj h' o (hget ho));exact this

def PCH(P:Program)(f:FuncId)(args:List SV)(s:SV)(H:List SObj):Prop:=enters P f=true∧∀K:Out->List SObj->Prop,K (.ret s) H->VCall P f args H K
def PC.at{f:FuncId}{args:List SV}{s:SV}(h:PC P f args s)(H:List SObj):PCH P f args s H:=⟨h.1,h.2 H⟩
def PKE(s:SV)(H:List SObj):Out->List SObj->Prop:=fun o H'=>o= .ret s∧∃G,H'=H++G
variable {f:FuncId}{args:List SV}
def z9b{s:SV}(hs:s.clean=true)(h:VC P f args H (PKE s H)):PCH P f args s H:=⟨h.1,VCall.drop hs h.2⟩
variable {d:Option Tmp}{m:IM}
def z9p{s:SV}(hp:PCH P f args s m.heap)(h:SoundI P AQ {m with tmps:=putT m.tmps d s}):CallI P AQ f args d m:=
 ⟨hp.1,(hp.2 _ h).g⟩
def Frz(hd:Nat)(K:Out->List SObj->Prop):Out->List SObj->Prop
 |.ret s,H'=>match H'[hd]? with
  |some (.row t xs)=>xs.length<=1125899906842624∧frzObH hd t xs H'∧s.frzOb hd t xs∧K (.ret (s.frz hd t xs)) (frzH hd t xs H')
  |_=>False
 |.pan s,H'=>K (.pan s) H'
theorem VCall.frz{f:FuncId}{args:List SV}{K:Out->List SObj->Prop}(hd:Nat)(h:VCall P f args H (Frz hd K)):VCall P f args H K:=by
 intro C vs hw ht hv;refine (h C vs hw ht hv).mono ?_;rintro e w' ⟨o,H',C',hk,rfl,hw',hx,hd'⟩;cases o with
 |pan s=>exact ⟨.pan s,H',C',hk,rfl,hw',hx,hd'⟩
 |ret s=>
  simp only [Frz] at hk;split at hk
  . rename_i t xs hH;obtain ⟨k1,k2,k3,k4⟩:=hk;obtain ⟨g1,g2⟩:=z8r hw' hx hH k1 k2;obtain ⟨v,rfl,hd'⟩:=hd';exact ⟨.ret (s.frz hd t xs),frzH hd t xs H',C'.frz hd,k4,rfl,g1,g2,v,rfl,q4v hw' hH k1 k3 hd'⟩
  exact hk.elim
def FrzM(K:Out->List SObj->Prop)(H:List SObj):Out->List SObj->Prop
 |.ret (.mp h),H'=>∃kk ks vs G,h=H.length∧H'=H++ .map kk ks (rawL vs) :: G∧K (.ret (.imap kk ks vs)) H
 |_,_=>False
def VCall.frzM{f:FuncId}{args:List SV}{K:Out->List SObj->Prop}(h:VCall P f args H (FrzM K H)):VCall P f args H K:=by
 intro C vs hw ht hv;refine (h C vs hw ht hv).mono ?_;rintro e w' ⟨o,H',C',hk,rfl,hw',hx,hd'⟩;unfold FrzM at hk;split at hk
 . obtain ⟨kk,ks,ms,G,rfl,rfl,hk⟩:=hk;obtain ⟨v,rfl,hd'⟩:=hd';rw [SV.den] at hd';obtain ⟨_,b,hb,rfl⟩:=hd';have hget':(H++ .map kk ks (rawL ms) :: G)[H.length]?=some (.map kk ks (rawL ms)):=by simp
   obtain ⟨b',us,hb',hm,hu⟩:=hw'.obj H.length _ hget';rw [hb] at hb';cases hb';rw [q1l hu] at hm;have hob:OwnB C' (H++ .map kk ks (rawL ms) :: G) b:=⟨H.length,_,hget',rfl,hb⟩
   let D:Cx:={C' with n:=H.length,I:=fun x=>C'.I x∨x=b}
   have hget:∀ {h' o},H[h']?=some o->(H++ .map kk ks (rawL ms) :: G)[h']?=some o:=fun hh=>by rw [Ai (Ag.1 hh).1];exact hh
   have hown:∀x,OwnB D H x->OwnB C' (H++ .map kk ks (rawL ms) :: G) x∧x≠b:=fun x ⟨h',o,ho,hl,hx⟩=>⟨⟨h',o,hget ho,hl,hx⟩,fun e=>by
    subst e;have:=hw'.inj h' H.length _ _ x (hget ho) hget' hl rfl hx hb;have hlt:=(Ag.1 ho).1
    omega⟩
   have hev:Evo C D:=⟨by rw [hw.n];exact Af _,hx.evo.ρ,fun x hxI=>⟨.inl (hx.evo.I x hxI).1,(hx.evo.I x hxI).2⟩,hx.evo.sz⟩
   have hkeep:Keeps C'.I D.I C'.w D.w:=fun x hxI=>⟨.inl hxI,rfl⟩;refine ⟨.ret (.imap kk ks ms),H,D,hk,rfl,⟨rfl,fun h' o ho=> ?_,fun x hxo=> ?_,fun h1 h2 o o' x g1 g2=>hw'.inj h1 h2 o o' x (hget g1) (hget g2),?_⟩,⟨hev,hx.size,hx.os,hx.tape,hx.output,hx.frame,?_,fun x hxo=>hx.ownNew x (hown x hxo).1,fun _ _ h=>h⟩,.map (some b),rfl,by rw [SV.den];exact ⟨b,rfl,.inr rfl,hm⟩⟩
   . have hbel:=q5D (hw.obj h' o ho);rw [hw.n] at hbel;have h1:objDen (C'.ren (fun h=>h) H.length) h' o:=objRen (σ:=fun h=>h) (n:=H.length) hbel (by rw [q1J];exact hw'.obj h' o (hget ho));have he:Evo (C'.ren (fun h=>h) H.length) D:=⟨Af _,fun _ _=>rfl,hkeep,fun _ _ h=>h⟩;exact q0E he.I h' rfl (fun _ _=>rfl) (q0h he) h1
   . obtain ⟨h1,h2⟩:=hown x hxo;have:=hw'.own x h1;exact ⟨fun hi=>hi.elim this.1 h2,this.2⟩
   . rintro x (hx'|rfl)
     . exact hw'.imm x hx'
     exact (hw'.own _ hob).2
   rintro x (hx'|rfl)
   . exact hx.immNew x hx'
   exact .inr ⟨hx.ownNew _ hob,(q4y hw' hob:Unf C'.w _)⟩
 exact hk.elim
def j3L{K:Out->List SObj->Prop}(h:VC P f args H (FrzM K H)):VC P f args H K:=⟨h.1,VCall.frzM h.2⟩

theorem j1x{vs:List Value}{v:Value}(he:enters P f=true)(h:∀w,Calls P f vs.toArray w fun e w'=>e= .returned v∧Go.RowKit.Below w.heap.size w w'):PC P f (rawL vs) (.raw v):=by refine ⟨he,fun H K hk C us hw ht hv=> ?_⟩;rw [q1l hv];refine (h C.w).mono ?_;rintro e w' ⟨rfl,hg⟩;obtain ⟨g1,g2⟩:=j0k hw hg.size hg.block hg.os hg.tape hg.output;exact ⟨_,H,_,hk,rfl,g1,g2,v,rfl,by rw [SV.den]⟩

theorem z0V{k:List It}{tm:List SV}(i:Nat)(ty:Ty)(hi:tm[i]?=some (.raw (.slice none 0 0)))(hs:Sound P AQ ⟨k0,k,tm.set i (.bld H.length ty 0),H++ [.row ty []]⟩):Sound P AQ ⟨k0,k,tm,H⟩:=by
 intro E r n C a h0 hd;obtain ⟨C',hw,g1,g2,g3⟩:=z1P (t:=ty) hd.wd;have:=hs E r n C' a h0 ⟨g1,hd.ext.trans g2,DefOk.next g2 hd.defs,?_⟩
 . rw [<-hw];exact this
 have h1:=q0h g2.evo hd.tmps;obtain ⟨v,hv,hd'⟩:=q1Z h1 hi;rw [SV.den] at hd';subst hd';have:=q2k (i:=i) h1 g3;have he:a.tmps.toList.set i (.slice none 0 0)=a.tmps.toList:=by
  apply Bf;intro j;by_cases e:j=i
  . subst e;rw [Ar (Ag.1 hv).1,hv]
  rw [Aq (Ne.symm e)]
 rwa [he] at this
def z1k(i:Nat)(ty:Ty){td:List IT}(hp:plainT td=true)(hi:t[i]?=some (.raw (.slice none 0 0)))(h:SoundI P AQ ⟨k0,td,t.set i (.bld H.length ty 0),H++ [.row ty []]⟩):SoundI P AQ ⟨k0,td,t,H⟩:=
 q0f (fun _ hr=>z0V i ty hi (q0g h hr)) hp

def z5U{C:Cx}{h:Nat}{t:Ty}{xs:List t.den}(hw:Wd C H)(hH:H[h]?=some (.row t xs)):Wd (C.frz h) (H.set h .dead)∧Ext ⟨C,H⟩ (C.frz h) (H.set h .dead):=by
 have hob:∀b,C.ρ h=some b->OwnB C H b:=fun b hb=>⟨h,_,hH,rfl,hb⟩;have hget:∀ {i y},(H.set h .dead)[i]?=some y->y.live=true->i≠h∧H[i]?=some y:=fun {i y} hy hl=>by
  by_cases e:i=h
  . subst e;rcases AI i H.length with h1|h1
    . rw [Ar h1] at hy;cases hy;simp [SObj.live] at hl
    rw [AW (by simpa using h1)] at hy;cases hy
  rw [Aq (Ne.symm e)] at hy;exact ⟨e,hy⟩
 have hown:∀b,OwnB (C.frz h) (H.set h .dead) b->OwnB C H b∧C.ρ h≠some b:=by rintro b ⟨i,y,hy,hl,hb⟩;obtain ⟨hne,hy'⟩:=hget hy hl;exact ⟨⟨i,y,hy',hl,hb⟩,fun e=>hne (hw.inj i h y _ b hy' hH hl rfl hb e)⟩
 refine ⟨⟨by simp [Cx.frz,hw.n],fun i y hy=> ?_,fun b hb=> ?_,fun i j y y' b hy hy' hl hl' hb hb'=> ?_,?_⟩,⟨q0S C h,Af _,rfl,rfl,rfl,fun _ _ _=>rfl,?_,fun b hb=>.inr (hown b hb).1,fun _ _ hn=>q3R hH rfl hn⟩⟩
 . by_cases hl:y.live=true
   . exact q0E (q0S C h).I i rfl (fun _ _=>rfl) (q0h (q0S C h)) (hw.obj i y (hget hy hl).2)
   cases y<;>first|trivial|simp [SObj.live] at hl
 . obtain ⟨h1,h2⟩:=hown b hb;have:=hw.own b h1;exact ⟨fun hi=>hi.elim this.1 h2,this.2⟩
 . exact hw.inj i j y y' b (hget hy hl).2 (hget hy' hl').2 hl hl' hb hb'
 . rintro b (hb|hb)
   . exact hw.imm b hb
   exact (hw.own b (hob b hb)).2
 rintro b (hb|hb)
 . exact .inl hb
 exact .inr ⟨.inr (hob b hb),(q4y hw (hob b hb):Unf C.w b)⟩
theorem VCall.hand{f:FuncId}{args:List SV}{K:Out->List SObj->Prop}(h:Nat){t:Ty}{xs:List t.den}(hH:H[h]?=some (.row t xs))(hlen:xs.length<=1125899906842624)(ho:SV.frzObL h t xs args)
 (hc:VCall P f (SV.frzL h t xs args) (H.set h .dead) K):VCall P f args H K:=by
 intro C vs hw ht hv;obtain ⟨g1,g2⟩:=z5U hw hH;refine (hc (C.frz h) vs g1 (ht.next g2) (q2o hw hH hlen ho hv)).mono ?_;rintro e w' ⟨o,H',C',hk,rfl,hw',hx,hd'⟩;exact ⟨o,H',C',hk,rfl,hw',g2.trans hx,hd'⟩
theorem VCallG.hand{f:FuncId}{args:List SV}{K:Out->List SObj->Prop}(h:Nat){t:Ty}{xs:List t.den}(hH:H[h]?=some (.row t xs))(hlen:xs.length<=1125899906842624)(ho:SV.frzObL h t xs args)
 (hc:VCallG P f (SV.frzL h t xs args) (H.set h .dead) K):VCallG P f args H K:=by
 intro E C vs hw hg hv;obtain ⟨g1,g2⟩:=z5U hw hH;refine (hc E (C.frz h) vs g1 (Ghost.next g2 hg) (q2o hw hH hlen ho hv)).mono ?_;rintro e w' ⟨o,H',C',hk,rfl,hw',hx,hd'⟩;exact ⟨o,H',C',hk,rfl,hw',(Stp.of g2).trans hx,hd'⟩
def handC(h:Nat)(args:List SV)(H:List SObj)(k:List SV->List SObj->Prop):Prop:=match H[h]? with
 |some (.row t xs)=>xs.length<=1125899906842624∧SV.frzObL h t xs args∧k (SV.frzL h t xs args) (H.set h .dead)
 |_=>False
theorem q0z(h:Nat)(hc:handC h args m.heap fun args' H'=>CallI P AQ f args' d {m with heap:=H'}):CallI P AQ f args d m:=by
 unfold handC at hc;split at hc
 . rename_i t xs hH;exact ⟨hc.2.2.1,VCallG.hand h hH hc.1 hc.2.1 hc.2.2.2⟩
 exact hc.elim
theorem q0G{G:List Nat}(h:Nat)(hG:G.contains h=false)(hc:handC h args m.heap fun args' H'=>CallR P AQ G f args' d {m with heap:=H'}):CallR P AQ G f args d m:=by
 unfold handC at hc;split at hc
 . rename_i t xs hH;refine ⟨hc.2.2.1,VCallG.hand h hH hc.1 hc.2.1 (hc.2.2.2.mono fun o H' ho=> ?_)⟩;have hs:SameG G m.heap (m.heap.set h .dead):=fun i hi=>by
    rw [Aq];rintro rfl;have:G.contains h=true:=by simpa using hi
    rw [this] at hG;cases hG
   cases o with
   |ret s=>exact ⟨fun hg=>hs.trans (ho.1 hg),ho.2⟩
   |pan s=>exact ho
 exact hc.elim

def q4z:∀ (l:List Value),SV.cleanL (rawL l)=true
 | []=>rfl
 |_ :: l=>by rw [rawL,AC,SV.cleanL,SV.clean,B7];exact q4z l

variable {α:Type}
def getA(G R:List α)(k:Nat):(G++R)[G.length+k]?=R[k]?:=by rw [Ao (by omega)];congr 1;omega
def getA0(G R:List α):(G++R)[G.length]?=R[0]?:=getA G R 0
def setA(G R:List α)(k:Nat)(x:α):(G++R).set (G.length+k) x=G++R.set k x:=by rw [List.set_append_right _ _ (by omega)];congr 2;omega
def setA0(G R:List α)(x:α):(G++R).set G.length x=G++R.set 0 x:=setA G R 0 x
def j3S(l:List α)(a:α):(l++ [a])[l.length]?=some a:=by simp
def j3y(l:List α)(a b:α):(l++ [a]).set l.length b=l++ [b]:=by simp
def z2n(l:List α)(a:α):(l++ [a]).length=l.length+1:=by simp
def wrapi{n:Int}(h: -9223372036854775808<=n∧n<=9223372036854775807):IntKind.i64.wrap n=n:=IntWalk.i64_in n h
variable {l:List α}
def q2l{d:α}(h:i<l.length):l.getD i d∈l:=by rw [Aa,Ac h];exact Bu h
theorem q2a{d:α}(h:i<l.length):l.take (i+1)=l.take i++ [l.getD i d]:=by rw [CX,Aa,Ac h];rfl
theorem cast0:((0:Nat):Int)=0:=rfl
attribute [go_sem] handC FrzM Frz frzObH SObj.frzOb SV.frzOb SV.frzObL SV.frz SV.frzL frzH SObj.frz List.map_append Int.toNat_natCast cast0 j3S j3y z2n setMany maskT leM leM1 IC.wr OpI.wr List.flatMap_cons List.flatMap_nil Option.toList_some Option.toList_none List.foldl_cons List.foldl_nil
theorem sxaE{p q:Prop}(h:q)(e:p=q:=by (simp (maxSteps:=3000000) only [List.append_assoc,getA,getA0,setA,setA0,Ab,Nat.add_assoc,go_sem,↓zA,↓reduceIte,↓reduceDIte];(try simp only [zB]);rfl)):p:=Eq.mpr e h
def goaE{q:Prop}(hm:P.follows .mixedOrders=true)(h:q)(e:run P AQ 600 m=q:=by (simp (maxSteps:=3000000) only [List.append_assoc,getA,getA0,setA,setA0,Ab,Nat.add_assoc,go_sem,↓zA,↓reduceIte,↓reduceDIte];(try simp only [zB]);rfl)):SoundI P AQ m:=q0r hm 600 m (Eq.mpr e h)
def wsx(i:Nat)(h:i<4611686018427387904):IntKind.i64.wrap ((i:Int)+1)=((i+1:Nat):Int):=q1w h
end
section
open Go

variable [Ghost] {P:Program} {AQ:Ex->List SV->List SObj->Prop} {k0:Nat} {k:List IT} {t:List SV} {H:List SObj}

theorem q9f{n:Nat}{s:SV}(hs:s.bel n=true):∀ {l:List SV} (i:Nat),SV.belL n l=true->SV.belL n (l.set i s)=true
 | [],_,h=>h
 |x :: l,0,h=>by rw [Bh,SV.belL] at*;simp only [Am] at*;exact ⟨hs,h.2⟩
 |x :: l,i+1,h=>by rw [Bi,SV.belL] at*;simp only [Am] at*;exact ⟨h.1,q9f hs i h.2⟩
theorem q2V{n:Nat}:∀ (ws:List Nat) {l:List SV},SV.belL n l=true->SV.belL n (maskT ws l)=true
 | [],_,h=>h
 |d :: ws,l,h=>by simp only [maskT,Bq];exact q2V ws (q9f (s:=.any) rfl d h)
def q2U{n:Nat}:∀ (u:List (Nat×SV)) {l:List SV},(u.all fun x=>x.2.bel n)=true->SV.belL n l=true->SV.belL n (setMany l u)=true
 | [],_,_,h=>h
 | (i,s) :: u,l,hu,h=>by simp only [BC,Am] at hu;exact q2U u hu.2 (q9f hu.1 i h)
def q4D{n:Nat}:∀ {L:List SObj},(∀ (h:Nat) (o:SObj),L[h]?=some o->o.bel n=true)->belH n L=true
 | [],_=>rfl
 |o :: l,h=>by simp only [belH,Am];exact ⟨h 0 o rfl,q4D fun i x hx=>h (i+1) x (by simpa using hx)⟩
def q7b:∀ {l l':List SV},leM l l'->leT (fun h=>h) l l'
 | [],[],_=>trivial
 |s :: l,s' :: l',h=>by refine ⟨?_,q7b h.2⟩;have:=h.1;cases s'<;>first|trivial| (simp only [leM1] at this;simp only [leS];rw [this];rw [z3i])
 | [],_ :: _,h=>h.elim
 |_ :: _,[],h=>h.elim
def z4k{A B:List SObj}{x:SObj}(h0:0<H.length)(h:(H++A)[0]?=some x):(H++B)[0]?=some x:=by rw [Ai h0] at h⊢;exact h
def q7x{σ:Nat->Nat}{t':List SV}{H':List SObj}{E:EnD}{C:Cx}{a:Act}(he:E.C.n<=k0)(hd:Den E C t H a)(tm:leT σ t t')(bt:SV.belL H'.length t'=true)
 (hp:∀h o,H'[h]?=some o->o.live=true->H[σ h]?=some (o.ren σ))(bh:belH H'.length H'=true)(inj:∀h h' o o',H'[h]?=some o->H'[h']?=some o'->o.live=true->o'.live=true->σ h=σ h'->h=h')(fix:∀h,h<k0->σ h=h)(len:k0<=H'.length)(mk:∀n,0<E.C.n->H[0]?=some (.mark n)->H'[0]?=some (.mark n)):
 Den E (C.ren σ H'.length) t' H' a:=by
 have hown:∀b,OwnB (C.ren σ H'.length) H' b->OwnB C H b:=by rintro b ⟨i,o,ho,hl,hb⟩;exact ⟨σ i,_,hp i o ho hl,by rw [q1a];exact hl,hb⟩
 have hevo:Evo E.C (C.ren σ H'.length):=⟨As he len,fun x hx=>by simp only [Cx.ren];rw [fix x (by omega)];exact hd.ext.evo.ρ x hx,hd.ext.evo.I,hd.ext.evo.sz⟩
 refine ⟨⟨rfl,?_,fun b hb=>hd.wd.own b (hown b hb),?_,hd.wd.imm⟩,⟨hevo,hd.ext.size,hd.ext.os,hd.ext.tape,hd.ext.output,hd.ext.frame,hd.ext.immNew,fun b hb=>hd.ext.ownNew b (hown b hb),fun n h0 hn=>mk n h0 (hd.ext.keep0 n h0 hn)⟩,?_,z1V tm bt hd.tmps⟩
 . intro i o ho;by_cases hl:o.live=true
   . exact objRen (q2I bh ho) (hd.wd.obj _ _ (hp i o ho hl))
   cases o<;>first|trivial|simp [SObj.live] at hl
 . intro i j o o' b ho ho' hl hl' hb hb';exact inj i j o o' ho ho' hl hl' (hd.wd.inj (σ i) (σ j) _ _ b (hp i o ho hl) (hp j o' ho' hl') (by rw [q1a];exact hl) (by rw [q1a];exact hl') hb hb')
 exact ⟨hd.defs.1,Ghost.same hd.wd rfl (fun _ h=>h) (fun _ hb=>.inl hb) hown mk hevo.n hd.defs.2⟩

def RoundD(H:List SObj)(S:Nat->List SV)(n:Nat)(p:Nat->Prop)(i:Nat):List SV->List SObj->Prop:=
 fun t' H'=>i<n∧p (i+1)∧(∃G,H'=H++G)∧leM t' (S (i+1))
def z2E{k:List It}(c:Code)(S:Nat->List SV)(n:Nat)(p:Nat->Prop)(h₀:p 0)(hs:leM t (S 0))(hk:k0<=H.length)(hb:SV.belL H.length t=true->∀i,SV.belL H.length (S i)=true)
 (round:∀i,i<=n->p i->Sound P AQ ⟨k0,.code c :: .stop (RoundD H S n p i) :: k,S i,H⟩):Sound P AQ ⟨k0,.code (.loop c) :: k,t,H⟩:=fun E r m C a h0 hd=>by
 have hbt:∀i,SV.belL H.length (S i)=true:=hb (by have:=q1A hd.tmps;rwa [hd.wd.n] at this);have hbh:belH H.length H=true:=q4D fun h o ho=>by have:=q5D (hd.wd.obj h o ho);rwa [hd.wd.n] at this
 simp only [wpT];refine q0R (fun m a w=>∃i,i<=n∧p i∧n-i=m∧∃C,C.w=w∧Den E C (S i) H a) n ⟨0,Al _,h₀,rfl,C,rfl,hd.wd,hd.ext,hd.defs,q2L (q3h hs) hd.tmps⟩ ?_;rintro m' a w ⟨i,hi,hp,rfl,C,rfl,hd⟩;have h1:=round i hi hp E r m C a h0 hd;simp only [wpT] at h1;refine wpIn_mono h1 fun e a w hq=> ?_;cases e with
 |normal=>obtain ⟨C',t',H',⟨hlt,hp',⟨G,rfl⟩,hS⟩,rfl,hd'⟩:=hq;refine ⟨n- (i+1),by omega,i+1,hlt,hp',rfl,C'.ren (fun h=>h) H.length,rfl,?_⟩;exact q7x h0.1 hd' (q7b hS) (hbt _) (fun h o ho _=>by rw [q1J,Ai (Ag.1 ho).1];exact ho) hbh (fun _ _ _ _ _ _ _ _ e=>e) (fun _ _=>rfl) hk (fun _ hp hn=>by rw [Ai (An hp (As h0.1 hk))] at hn;exact hn)
 |exit id=>simpa only [Exit.then,exitT] using hq
 |_=>exact hq
variable {c:IC}
theorem q1u(upd:Nat->List (Nat×SV))(n:Nat)(q:Nat->Prop)(hk:k0<=H.length)(hu:∀i,((upd i).all fun x=>x.2.bel H.length)=true)(hs:leM t (setMany (maskT c.wr t) (upd 0)))
 (round:∀i,i<=n->(∀j,j<i->q j)->SoundI P AQ ⟨k0,.ic c :: .stop (RoundD H (fun i=>setMany (maskT c.wr t) (upd i)) n (fun i=>∀j,j<i->q j) i) :: k,setMany (maskT c.wr t) (upd i),H⟩):
 SoundI P AQ ⟨k0,.ic (.loop c) :: k,t,H⟩:=q0f (fun td' hr=>by
 obtain ⟨c',r,rfl,hc,hr⟩:=hr;obtain ⟨x,rfl,hx⟩:=q0L hc
 exact z2E x _ n _ (fun j hj=>absurd hj (Bl j)) hs hk (fun hb i=>q2U _ (hu i) (q2V _ hb)) (fun i hi hp=>q0g (round i hi hp) ⟨x,_,rfl,hx,r,rfl,hr⟩)) rfl
variable {ι:Type}
def RoundG(Hf:ι->List SObj)(S:ι->List SV)(μ:ι->Nat)(p:ι->Prop)(i:ι):List SV->List SObj->Prop:=
 fun t' H'=>∃j,p j∧μ j<μ i∧(∃G,H'=Hf j++G)∧leM t' (S j)
def z2v{k:List It}(c:Code)(S:ι->List SV)(Hf:ι->List SObj)(μ:ι->Nat)(p:ι->Prop)(i₀:ι)(h₀:p i₀)(N:Nat)(hH:H=Hf i₀)(hk:k0<=N)(hN:∀i,(Hf i).length=N)(hB:∀i,belH N (Hf i)=true)(hs:leM t (S i₀))(hb:SV.belL N t=true->∀i,SV.belL N (S i)=true)
 (round:∀i,p i->Sound P AQ ⟨k0,.code c :: .stop (RoundG Hf S μ p i) :: k,S i,Hf i⟩):Sound P AQ ⟨k0,.code (.loop c) :: k,t,H⟩:=fun E r m C a h0 hd=>by
 subst hH;have hbt:∀i,SV.belL N (S i)=true:=hb (by have:=q1A hd.tmps;rwa [hd.wd.n,hN] at this);simp only [wpT];refine q0R (fun m a w=>∃i,p i∧μ i=m∧∃C,C.w=w∧Den E C (S i) (Hf i) a) (μ i₀) ⟨i₀,h₀,rfl,C,rfl,hd.wd,hd.ext,hd.defs,q2L (q3h hs) hd.tmps⟩ ?_;rintro m' a w ⟨i,hp,rfl,C,rfl,hd⟩;have h1:=round i hp E r m C a h0 hd;simp only [wpT] at h1;refine wpIn_mono h1 fun e a w hq=> ?_;cases e with
 |normal=>obtain ⟨C',t',H',⟨j,hp',hlt,⟨G,rfl⟩,hS⟩,rfl,hd'⟩:=hq;refine ⟨μ j,hlt,j,hp',rfl,C'.ren (fun h=>h) (Hf j).length,rfl,?_⟩;exact q7x h0.1 hd' (q7b hS) (by rw [hN];exact hbt _) (fun h o ho _=>by rw [q1J,Ai (Ag.1 ho).1];exact ho) (by rw [hN];exact hB j) (fun _ _ _ _ _ _ _ _ e=>e) (fun _ _=>rfl) (by rw [hN];exact hk) (fun _ hp hn=>by rw [Ai (by rw [hN];exact An hp (As h0.1 hk))] at hn;exact hn)
 |exit id=>simpa only [Exit.then,exitT] using hq
 |_=>exact hq
theorem q1Y(upd:ι->List (Nat×SV))(Hf:ι->List SObj)(μ:ι->Nat)(p:ι->Prop)(i₀:ι)(h₀:p i₀)(N:Nat)(hH:H=Hf i₀)(hk:k0<=N)(hN:∀i,(Hf i).length=N)(hB:∀i,belH N (Hf i)=true)(hu:∀i,((upd i).all fun x=>x.2.bel N)=true)(hs:leM t (setMany (maskT c.wr t) (upd i₀)))
 (round:∀i,p i->SoundI P AQ ⟨k0,.ic c :: .stop (RoundG Hf (fun i=>setMany (maskT c.wr t) (upd i)) μ p i) :: k,setMany (maskT c.wr t) (upd i),Hf i⟩):SoundI P AQ ⟨k0,.ic (.loop c) :: k,t,H⟩:=q0f (fun td' hr=>by
 obtain ⟨c',r,rfl,hc,hr⟩:=hr;obtain ⟨x,rfl,hx⟩:=q0L hc
 exact z2v x _ Hf μ p i₀ h₀ N hH hk hN hB hs (fun hb i=>q2U _ (hu i) (q2V _ hb)) (fun i hi=>q0g (round i hi) ⟨x,_,rfl,hx,r,rfl,hr⟩)) rfl
def q1i{q:Nat->Prop}{i:Nat}(hall:∀j,j<i->q j)(h:q i):∀j,j<i+1->q j:=fun j hj=>by
 by_cases e:j=i
 . subst e;exact h
 exact hall j (by omega)

def shift(n m h:Nat):Nat:=if h=n then m else h
def RoundA(H:List SObj)(ty:Ty)(S:Nat->List SV)(xs:Nat->List ty.den)(n:Nat)(p:Nat->Prop)(i:Nat):List SV->List SObj->Prop:=
 fun t' H'=>i<n∧p (i+1)∧∃G G',H'=H++G++ [.row ty (xs (i+1))]++G'∧leT (shift H.length (H.length+G.length)) t' (S (i+1))
def q9N{n m:Nat}:(∀ {s:SV},s.bel n=true->s.ren (shift n m)=s)∧(∀ {l:List SV},SV.belL n l=true->SV.renL (shift n m) l=l):=by
 have hlt:∀h,decide (h<n)=true->shift n m h=h:=fun h hh=>by unfold shift;rw [if_neg (by have:=of_decide_eq_true hh;omega)]
 refine ⟨fun {s}=> ?_,fun {l}=> ?_⟩
 . exact SV.rec (motive_1:=fun s=>s.bel n=true->s.ren (shift n m)=s) (motive_2:=fun l=>SV.belL n l=true->SV.renL (shift n m) l=l)
    (by intro h;rw [SV.ren]) (by intros;rw [SV.ren]) (by intros;rw [SV.ren]) (by intros;rw [SV.ren]) (by intros;rw [SV.ren]) (fun h _ hb=>by rw [SV.bel] at hb;rw [SV.ren,hlt _ hb]) (fun h _ _ _ hb=>by rw [SV.bel] at hb;rw [SV.ren,hlt _ hb]) (fun h _ _ hb=>by rw [SV.bel] at hb;rw [SV.ren,hlt _ hb]) (fun h _ _ _ hb=>by rw [SV.bel] at hb;rw [SV.ren,hlt _ hb]) (fun h _ _ _ _ hb=>by rw [SV.bel] at hb;rw [SV.ren,hlt _ hb]) (by intros;rw [SV.ren])
    (fun l ih hb=>by rw [SV.bel] at hb;rw [SV.ren,ih hb]) (fun l ih hb=>by rw [SV.bel] at hb;rw [SV.ren,ih hb]) (fun f a b iha ihb hb=>by rw [SV.bel,Am] at hb;rw [SV.ren,iha hb.1,ihb hb.2]) (fun T x ih hb=>by rw [SV.bel] at hb;rw [SV.ren,ih hb]) (fun h hb=>by rw [SV.bel] at hb;rw [SV.ren,hlt _ hb]) (by intros;rw [SV.ren])
    (fun _=>by rw [SV.renL]) (fun s l ihs ihl hb=>by rw [SV.belL,Am] at hb;rw [SV.renL,ihs hb.1,ihl hb.2]) s
 exact SV.rec_1 (motive_1:=fun s=>s.bel n=true->s.ren (shift n m)=s) (motive_2:=fun l=>SV.belL n l=true->SV.renL (shift n m) l=l)
  (by intro h;rw [SV.ren]) (by intros;rw [SV.ren]) (by intros;rw [SV.ren]) (by intros;rw [SV.ren]) (by intros;rw [SV.ren]) (fun h _ hb=>by rw [SV.bel] at hb;rw [SV.ren,hlt _ hb]) (fun h _ _ _ hb=>by rw [SV.bel] at hb;rw [SV.ren,hlt _ hb]) (fun h _ _ hb=>by rw [SV.bel] at hb;rw [SV.ren,hlt _ hb]) (fun h _ _ _ hb=>by rw [SV.bel] at hb;rw [SV.ren,hlt _ hb]) (fun h _ _ _ _ hb=>by rw [SV.bel] at hb;rw [SV.ren,hlt _ hb]) (by intros;rw [SV.ren])
  (fun l ih hb=>by rw [SV.bel] at hb;rw [SV.ren,ih hb]) (fun l ih hb=>by rw [SV.bel] at hb;rw [SV.ren,ih hb]) (fun f a b iha ihb hb=>by rw [SV.bel,Am] at hb;rw [SV.ren,iha hb.1,ihb hb.2]) (fun T x ih hb=>by rw [SV.bel] at hb;rw [SV.ren,ih hb]) (fun h hb=>by rw [SV.bel] at hb;rw [SV.ren,hlt _ hb]) (by intros;rw [SV.ren])
  (fun _=>by rw [SV.renL]) (fun s l ihs ihl hb=>by rw [SV.belL,Am] at hb;rw [SV.renL,ihs hb.1,ihl hb.2]) l
def z2M{k:List It}(c:Code)(ty:Ty)(S:Nat->List SV)(xs:Nat->List ty.den)(n:Nat)(p:Nat->Prop)(h₀:p 0)(hs:leM t (S 0))(hk:k0<=H.length)(hx0:xs 0= [])(hbh:belH H.length H=true)(hb:SV.belL (H.length+1) t=true->∀i,SV.belL (H.length+1) (S i)=true)
 (round:∀i,i<=n->p i->Sound P AQ ⟨k0,.code c :: .stop (RoundA H ty S xs n p i) :: k,S i,H++ [.row ty (xs i)]⟩):Sound P AQ ⟨k0,.code (.loop c) :: k,t,H++ [.row ty []]⟩:=fun E r m C a h0 hd=>by
 have hbt:∀i,SV.belL (H.length+1) (S i)=true:=hb (by have:=q1A hd.tmps;rw [hd.wd.n] at this;simpa using this);have hbh':∀ys:List ty.den,belH (H.length+1) (H++ [.row ty ys])=true:=fun ys=>q4D fun h o ho=>by
  rcases q0p ho with ⟨_,ho⟩ | ⟨_,rfl⟩
  . have:=q5D (hd.wd.obj h o (by rw [Ai (Ag.1 ho).1];exact ho));rw [hd.wd.n] at this;simpa using this
  rfl
 simp only [wpT];refine q0R (fun m a w=>∃i,i<=n∧p i∧n-i=m∧∃C,C.w=w∧Den E C (S i) (H++ [.row ty (xs i)]) a) n ⟨0,Al _,h₀,rfl,C,rfl,by rw [hx0];exact hd.wd,by rw [hx0];exact hd.ext,by rw [hx0];exact hd.defs,q2L (q3h hs) hd.tmps⟩ ?_;rintro m' a w ⟨i,hi,hp,rfl,C,rfl,hd⟩;have h1:=round i hi hp E r m C a h0 hd;simp only [wpT] at h1;refine wpIn_mono h1 fun e a w hq=> ?_;cases e with
 |normal=>
  obtain ⟨C',t',H',⟨hlt,hp',G,G',rfl,hS⟩,rfl,hd'⟩:=hq;refine ⟨n- (i+1),by omega,i+1,hlt,hp',rfl,C'.ren (shift H.length (H.length+G.length)) (H++ [SObj.row ty (xs (i+1))]).length,rfl,?_⟩;have hsh:∀h,h<H.length->shift H.length (H.length+G.length) h=h:=fun h hh=>by unfold shift;rw [if_neg (by omega)]
  have hshn:shift H.length (H.length+G.length) H.length=H.length+G.length:=by unfold shift;rw [if_pos rfl]
  refine q7x h0.1 hd' hS (by simpa using hbt (i+1)) (fun h o ho hl=> ?_) (by simpa using hbh' (xs (i+1))) (fun h h' o o' ho ho' _ _ e=> ?_) (fun h hh=>hsh h (An hh hk)) (by simp;exact Nat.le_succ_of_le hk) (fun _ hp hn=>z4k (An hp (As h0.1 hk)) (by simpa only [List.append_assoc] using hn))
  . rcases q0p ho with ⟨hh,ho⟩ | ⟨hh,rfl⟩
    . rw [hsh h hh];have hr:o.ren (shift H.length (H.length+G.length))=o:=by
       have hbo:=q2I hbh ho;cases o with
       |cells T cs=>simp only [SObj.ren];rw [q9N.2 (by simpa [SObj.bel] using hbo)]
       |map kk ks vs=>simp only [SObj.ren];rw [q9N.2 (by simpa [SObj.bel] using hbo)]
       |_=>rfl
      rw [hr,List.append_assoc,List.append_assoc,Ai hh];exact ho
    subst hh;rw [hshn];simp [SObj.ren]
  have hlen:∀ {h:Nat} {o:SObj},(H++ [SObj.row ty (xs (i+1))])[h]?=some o->h<=H.length:=fun ho=>by have:=(Ag.1 ho).1;simp at this;omega
  have g1:=hlen ho;have g2:=hlen ho';unfold shift at e;split at e<;>split at e<;>omega
 |exit id=>simpa only [Exit.then,exitT] using hq
 |_=>exact hq
theorem j2x(slot:Nat)(ty:Ty)(xs:Nat->List ty.den)(upd:Nat->List (Nat×SV))(n:Nat)(q:Nat->Prop)(hk:k0<=H.length)(hx0:xs 0= [])(hbh:belH H.length H=true)(hu:∀i,((upd i).all fun x=>x.2.bel (H.length+1))=true)
 (hs:leM t (setMany (maskT c.wr t) ((slot,.bld H.length ty 0) :: upd 0)))
 (round:∀i,i<=n->(∀j,j<i->q j)->SoundI P AQ ⟨k0,.ic c :: .stop (RoundA H ty (fun i=>setMany (maskT c.wr t) ((slot,.bld H.length ty (xs i).length) :: upd i)) xs n (fun i=>∀j,j<i->q j) i) :: k,setMany (maskT c.wr t) ((slot,.bld H.length ty (xs i).length) :: upd i),H++ [.row ty (xs i)]⟩):
 SoundI P AQ ⟨k0,.ic (.loop c) :: k,t,H++ [.row ty []]⟩:=q0f (fun td' hr=>by
 obtain ⟨c',r,rfl,hc,hr⟩:=hr;obtain ⟨x,rfl,hx⟩:=q0L hc;refine z2M x ty _ xs n _ (fun j hj=>absurd hj (Bl j)) (by rw [hx0];exact hs) hk hx0 hbh (fun hb i=>q2U _ ?_ (q2V _ hb)) (fun i hi hp=>q0g (round i hi hp) ⟨x,_,rfl,hx,r,rfl,hr⟩);rw [BC,Am]
 exact ⟨by rw [SV.bel];simp,hu i⟩) rfl
attribute [go_sem] leT leS shift SV.ren SV.renL
end
open Go

def Ty.inR:(t:Ty)->t.den->Prop
 |.u8,_=>True
 |.int k,n=>k.min<=n∧n<=k.max
 |.bool,_=>True
 |.str,_=>True
 |.slice t,xs=>∀x∈xs,t.inR x
 |.prod a b,x=>a.inR x.1∧b.inR x.2
 |.unit,_=>True
 |.arr _ t,xs=>∀x∈xs,t.inR x
 |.ptr t,x=>∀y,x=some y->t.inR y
 |.clo _ t,x=>t.inR x
 |.clp _ t,x=>t.inR x
 |.mbs t,x=>∀xs,x=some xs->∀y∈xs,t.inR y
def tyFs(P:Program)(rec:TypeId->Option Ty):List Field->Nat->Option Ty
 | [],_=>none
 |f :: fs,off=>match rec f.type with
  |none=>none
  |some a=>if f.offset=off∧P.cellsOf f.type=a.size then
   (match fs with
   | []=>some a
   |_ :: _=>(tyFs P rec fs (off+a.size)).map (.prod a ·)) else none
def tyRd(P:Program):Nat->TypeId->Option Ty
 |0,_=>none
 |n+1,t=>match P.underlying t with
  |some .bool=>some .bool
  |some (.int .u8)=>some .u8
  |some (.int k)=>some (.int k)
  |some .string=>some .str
  |some (.slice e)=>match tyRd P n e with
   |some a=>if P.cellsOf e=a.size∧0<P.bytesOf e∧0<a.size then some (.slice a) else none
   |none=>none
  |some (.struct fs)=>match tyFs P (tyRd P n) fs.toList 0 with
   |some a=>if P.cellsOf t=a.size then some a else none
   |none=>none
  |_=>none

variable {H:Type} {enc:TypeId×Value->H} {P:Program} {w:World} {spare:Nat->Bool} {held:Bool}

def q0K{l r:List Nat}{B:Nat}(h:(l++r).all (· <=B)=true):l.all (· <=B)=true∧r.all (· <=B)=true:=by rw [List.all_append,Am] at h;exact h
def q4o{e:TypeId}{B:Nat}:∀ {l:List (DataW H)} {i:Nat} {d:DataW H},(DataW.weightsAll P e l).all (· <=B)=true->l[i]?=some d->(d.weights P e).all (· <=B)=true
 | [],_,_,_,h=>by simp at h
 |x :: l,0,d,hw,h=>by simp at h;subst h;rw [DataW.weightsAll] at hw;exact (q0K hw).1
 |x :: l,i+1,d,hw,h=>by rw [DataW.weightsAll] at hw;exact q4o (q0K hw).2 (by simpa using h)
def cells?_cell{a:Addr}{n:Nat}{cs:List Value}(h:w.cells? 0 a n=some cs):∀ (k:Nat) (u:Value),cs[k]?=some u->w.cell? (a.add k)=some u:=by
 intro k u hu;unfold World.cells? at h;rw [if_pos (Al _)] at h;have hl:=mapM_some_length h;rw [Bo] at hl;have hk:k<n:=by rw [<-hl];exact (Ag.1 hu).1
 have:=mapM_some_get h k k (by simp [hk]);rw [this,hu]
theorem cell?_spot{a:Addr}{v:Value}(h:w.cell? a=some v):a.spot=none∧a.block<w.heap.size:=by
 unfold World.cell? at h;split at h
 . rename_i c t f hb;split at h
   . cases h
   rename_i hs;exact ⟨by simpa using hs,(AE.1 hb).1⟩
 cases h
def z2a{α:Type}{n:Nat}{p:Nat->α->Prop}(h:∀i,i<n->∃x,p i x):∃l:List α,l.length=n∧∀i x,l[i]?=some x->p i x:=by
 induction n with
 |zero=>exact ⟨[],rfl,fun i x h=>by simp at h⟩
 |succ n ih=>
  obtain ⟨l,hl,hp⟩:=ih (fun i hi=>h i (by omega));obtain ⟨x,hx⟩:=h n (by omega);refine ⟨l++ [x],by simp [hl],fun i y hy=> ?_⟩;rcases AI i l.length with hi|hi
  . rw [Ai hi] at hy;exact hp i y hy
  rw [Ao hi] at hy;have:i-l.length=0:=by
   rcases AI (i-l.length) 1 with h1|h1
   . omega
   rw [AW (by simpa using h1)] at hy;cases hy
  rw [this] at hy;simp at hy;subst hy;have:i=n:=by omega
  rw [this];exact hx
theorem q8r{n:Nat}{rec:TypeId->Option Ty}{cs:List Value}
 (ih:∀ (t:TypeId) (cs:List Value) (d:DataW H) (ps:List MemPlace) (ty:Ty),rec t=some ty->DataW.trod enc P w 0 spare held n t cs=some (d,ps)->(d.weights P t).all (· <=reachBytes)=true->∃x:ty.den,ty.rel (fun b=>b<w.heap.size) w x cs∧ty.inR x):
 ∀ (fs:List Field) (xs:List (DataW H×List MemPlace)) (off:Nat) (ty:Ty),tyFs P rec fs off=some ty->xs.length=fs.length->
  (∀ (i:Nat) (f:Field),fs[i]?=some f->DataW.trod enc P w 0 spare held n f.type ((cs.drop f.offset).take (P.cellsOf f.type))=xs[i]?)->
  (DataW.weightsEach P (fs.map (·.type)) (xs.map (·.1))).all (· <=reachBytes)=true->cs.length=off+ty.size->
  ∃x:ty.den,ty.rel (fun b=>b<w.heap.size) w x (cs.drop off)∧ty.inR x
 | [],_,_,_,h,_,_,_,_=>by simp [tyFs] at h
 |f :: fs,xs,off,ty,h,hl,hx,hw,hc=>by
  unfold tyFs at h;split at h
  . cases h
  rename_i a ha;split at h
  . rename_i hk;obtain ⟨ho,hs⟩:=hk;cases xs with
    |nil=>simp at hl
    |cons y ys=>
     have h0:=hx 0 f rfl;simp only [List.getElem?_cons_zero] at h0;simp only [AC,DataW.weightsEach] at hw;obtain ⟨hw1,hw2⟩:=q0K hw;obtain ⟨x,hx1,hx2⟩:=ih f.type _ y.1 y.2 a ha h0 hw1;rw [ho,hs] at hx1;split at h
     . cases h;rw [Ad (by rw [Aj];omega)] at hx1;exact ⟨x,hx1,hx2⟩
     rename_i g gs;simp only [Ap] at h;obtain ⟨b,hb,rfl⟩:=h;have hsz:(Ty.prod a b).size=a.size+b.size:=rfl;obtain ⟨z,hz1,hz2⟩:=q8r ih (g :: gs) ys (off+a.size) b hb (by simpa using hl) (fun i f' hf=>by have:=hx (i+1) f' (by simpa using hf);simpa using this) hw2 (by omega);refine ⟨(x,z),⟨_,_,?_,hx1,hz1⟩,hx2,hz2⟩;rw [<-Bd,AJ]
  cases h

theorem q9s:∀ (fuel n:Nat) (t:TypeId) (cs:List Value) (d:DataW H) (ps:List MemPlace) (ty:Ty),tyRd P n t=some ty->DataW.trod enc P w 0 spare held fuel t cs=some (d,ps)->(d.weights P t).all (· <=reachBytes)=true->
 ∃x:ty.den,ty.rel (fun b=>b<w.heap.size) w x cs∧ty.inR x
 |_,0,_,_,_,_,_,h,_,_=>by simp [tyRd] at h
 |0,n+1,t,cs,d,ps,ty,h,hd,hw=>by simp [DataW.trod] at hd
 |fuel+1,n+1,t,cs,d,ps,ty,h,hd,hw=>by
  unfold tyRd at h;split at h
  . rename_i hu;cases h;obtain ⟨b,rfl,_⟩:=DataW.trod_bool hu hd;exact ⟨b,rfl,trivial⟩
  . rename_i hu;cases h;obtain ⟨m,rfl,_,hwf⟩:=DataW.trod_int hu hd;simp only [Lit.wf,Am,decide_eq_true_eq] at hwf;have h1:(0:Int)<=m:=hwf.1;have h2:m<=255:=hwf.2;refine ⟨UInt8.ofNat m.toNat,?_,trivial⟩;simp only [Ty.rel];have:((UInt8.ofNat m.toNat).toNat:Int)=m:=by rw [A8];omega
    rw [this]
  . rename_i k hne hu;cases h;obtain ⟨m,rfl,_,hwf⟩:=DataW.trod_int hu hd;simp only [Lit.wf,Am,decide_eq_true_eq] at hwf;exact ⟨m,rfl,hwf⟩
  . rename_i hu;cases h;obtain ⟨s,rfl,hx,_⟩:=DataW.trod_string hu hd;cases hx;simp only [DataW.weights,BC,Cy,Cp] at hw;have hw:=of_decide_eq_true hw;refine ⟨s,⟨rfl,?_⟩,trivial⟩;have e1:s.data.toList.length=s.size:=by simp
    rw [e1] at hw;simp only [reachBytes] at hw;omega
  . rename_i e hu;split at h
    . rename_i a ha;split at h
      . rename_i hk;obtain ⟨hk1,hk2,hk3⟩:=hk;cases h;rcases DataW.trod_slice hu hd with ⟨rfl,hx⟩ | ⟨A,len,cap,elems,rest,m,hm,rfl,hx,_,hlc,_,hel,he,_,_⟩
        . exact ⟨[],⟨_,_,_,rfl,rfl,Af _,by simp,.inl rfl⟩,fun x hx=>by cases hx⟩
        cases hm;cases hx;simp only [DataW.weights,hu,BC,Am,decide_eq_true_eq] at hw;obtain ⟨hw0,hw1⟩:=hw;obtain ⟨hw1,_⟩:=q0K hw1;have hlen:len<=1125899906842624:=by simp only [AX,reachBytes] at hw0;have:len*1<=(elems.length+rest.length)*P.bytesOf e:=Nat.mul_le_mul (by omega) hk2;omega
        have key:∀i,i<len->∃x:a.den,(∃us,w.cells? 0 (A.add (i*P.cellsOf e)) (P.cellsOf e)=some us∧a.rel (fun b=>b<w.heap.size) w x us)∧a.inR x:=fun i hi=>by
         have h1:=he i hi;have hlt:i<elems.length:=by omega
         rw [Ac hlt,Bc] at h1;obtain ⟨us,hu1,hu2⟩:=h1;obtain ⟨x,hx1,hx2⟩:=q9s fuel n e us elems[i].1 elems[i].2 a ha hu2 (q4o hw1 (by rw [AF,Ac hlt];rfl));exact ⟨x,⟨us,hu1,hx1⟩,hx2⟩
        obtain ⟨xs,hxl,hxp⟩:=z2a key;refine ⟨xs,⟨some A,len,cap,rfl,hxl.symm,hlc,hlen,?_⟩,fun x hx=> ?_⟩
        . by_cases h0:xs= []
          . exact .inl h0
          right;have hpos:0<len:=by rw [<-hxl];exact List.length_pos_iff.2 h0
          obtain ⟨x0,⟨us0,hu0,hr0⟩,_⟩:=key 0 hpos;have hl0:=a.rel_size _ _ hr0;have hc0:us0[0]?=some (us0.getD 0 default):=by rw [Aa];rw [Ac (show 0<us0.length by omega)];rfl
          have hcell:=cells?_cell hu0 0 _ hc0;have hadd:(A.add (0*P.cellsOf e)).add 0=A:=by simp [Addr.add]
          rw [hadd] at hcell;obtain ⟨hsp,hbl⟩:=cell?_spot hcell;refine ⟨A.block,A.off,by cases A;simp at hsp;subst hsp;rfl,hbl,fun i x hx=> ?_⟩;obtain ⟨⟨us,hu1,hr1⟩,_⟩:=hxp i x hx;refine ⟨us,hr1,fun k u hu=> ?_⟩;have:=cells?_cell hu1 k u hu;have e1:(A.add (i*P.cellsOf e)).add k=⟨A.block,A.off+i*a.size+k,none⟩:=by cases A;simp only at hsp;subst hsp;simp only [Addr.add,hk1];split<;>split<;>simp_all
          rw [e1] at this;exact this
        obtain ⟨i,hi,rfl⟩:=A9 hx;exact (hxp i _ (Ac hi)).2
      cases h
    cases h
  . rename_i fs hu;split at h
    . rename_i a ha;split at h
      . rename_i hk;cases h;obtain ⟨xs,m,hm,hx,hlen,hxl,hxs⟩:=DataW.trod_struct hu hd;cases hm;cases hx;simp only [DataW.weights,hu] at hw;have:=q8r (cs:=cs) (fun t cs d ps ty=>q9s fuel n t cs d ps ty) fs.toList xs 0 _ ha (by simpa using hxl) (fun i f hf=>hxs i f (by simpa using hf)) hw (by omega);simpa using this
      cases h
    cases h
  cases h
open Go Go.ChangeShapes Go.WideShapes Go.RowKit

def Cx.top(w:World):Cx:={ρ:=fun _=>none,n:=0,I:=fun b=>b<w.heap.size,w:=w}
variable {f:FuncId}{args:List SV}{v:Value}{vs:List Value}
def z2b(h:PC P f args (.raw v))(hd:SV.denL (Cx.top w) args vs)(ht:TabT (Cx.top w) []:=by exact ⟨fun e he=>absurd he (by simp [tabList]),fun e he=>absurd he (by simp [datList])⟩):
 Calls P f vs.toArray w fun e w'=>e= .returned v∧Below w.heap.size w w':=by
 have h1:VCall P f args [] (fun o _=>o= .ret (.raw v)):=h.2 [] _ rfl;have hw:Wd (Cx.top w) []:=⟨rfl,fun h o ho=>by simp at ho,fun b ⟨h,o,ho,_⟩=>by simp at ho,fun h h' o o' b ho=>by simp at ho,fun b hb=>hb⟩
 refine (h1 (Cx.top w) vs hw ht hd).mono ?_;rintro e w' ⟨o,H',C',rfl,rfl,_,hx,u,rfl,hu⟩;rw [SV.den] at hu;subst hu;exact ⟨rfl,hx.os,hx.tape,hx.output,hx.size,fun b hb=>hx.frame b hb (fun ⟨h,o,ho,_⟩=>by simp at ho)⟩

section
variable {H:Type} {enc:TypeId×Value->H} {P:Program}
def trodAll_below'(hl:laidOutB P=true){W W':World}(hb:Below W.heap.size W W'){ts:List TypeId}{ds:List (DataW H)}{ps:List MemPlace}(ht:∀t∈ts,P.readableRec t=true∧t<P.types.size)
 (h:DataW.TrodAll enc P W 0 (fun _=>true) true ts vs ds ps)(hlt:∀x∈ps,x.block<W.heap.size)(sp:Nat->Bool)(hsp:∀p∈ps,sp p.block=true):DataW.TrodAll enc P W' 0 sp true ts vs ds ps:=by
 induction ts generalizing vs ds ps with
 |nil=>obtain ⟨rfl,rfl,rfl⟩:=trodAll_nil h;exact rfl
 |cons t ts ih=>obtain ⟨v,vs,d,ds,p,q,rfl,rfl,rfl,h0,h1⟩:=trodAll_cons h;refine ⟨p,q,?_,ih (fun t' h'=>ht t' (by simp [h'])) h1 (fun x hx=>hlt x (by simp [hx])) (fun x hx=>hsp x (by simp [hx])),rfl⟩;exact WideElems.Trod_stays hl (ht t (by simp)).1 (ht t (by simp)).2 h0 (fun x hx=>hb.same (hlt x (by simp [hx]))) (fun x hx=>hsp x (by simp [hx]))

def shut_bool'{t:TypeId}{base:Nat}(ht:P.underlying t=some .bool)(b:Bool):DataW.Trod enc P w base spare held t (.bool b) (.lit (.bool b)) []:=
 ⟨1,by simp [DataW.trod,Value.cells,ht]⟩

def j0L{f:Func}{s:ChangeSpec}{W W':World}{args:Array Value}{ds gs:List (DataW H)}{before:List MemPlace}{tb:TypeId}
 (hl:laidOutB P=true)(ht:∀t∈f.params.toList,P.readableRec t=true∧t<P.types.size)(hr:f.resultTypes= #[tb])(htb:P.underlying tb=some .bool)(hvs:s.vars= [])
 (hW:DataW.Whole enc P f.params.toList s.vars false W args.toList ds gs before)(hfn:s.fn H (ds++gs)={results:=[.lit (.bool true)],args:=ds})(hb:Below W.heap.size W W'):
 s.post enc P f false true false false W args (.bool true) W':=by
 have hlt:=hW.lt;have hW':=hW;rw [hvs] at hW;obtain ⟨p,q,hA,hV,rfl,hz,hn⟩:=hW;obtain ⟨rfl,rfl⟩:gs= []∧q= []:=by
  cases gs with
  |nil=>exact ⟨rfl,hV⟩
  |cons g gs=>exact hV.elim
 rw [Ah] at hlt hz hW';have hres:∀ (b:Nat) (sp:Nat->Bool) (hd:Bool),DataW.TrodAll enc P W' b sp hd f.resultTypes.toList ((Value.bool true).resultList f.resultTypes.size) (s.fn H (ds++ [])).results []:=fun b sp hd=>by rw [hr,hfn];exact trodAll_mk1 (shut_bool' htb true)
 have hargs:∀sp:Nat->Bool,(∀p'∈p,sp p'.block=true)->DataW.TrodAll enc P W' 0 sp true f.params.toList args.toList (s.fn H (ds++ [])).args p:=fun sp hsp=>by rw [hfn];exact trodAll_below' hl hb ht hA hlt sp hsp
 have hvars:∀sp:Nat->Bool,DataW.TrodVars enc P W' sp s.vars (s.fn H (ds++ [])).vars []:=fun sp=>by rw [hvs,hfn];exact rfl
 have hold:∀p'∈p,(fun b=>decide (b<W.heap.size)) p'.block=true:=fun p' hp=>by simpa using hlt p' hp
 refine ⟨ds,[],p,[],p,[],hW',hres _ _ _,hargs _ hold,hvars _,World.keptBut_mono (fun p' hp=>⟨hp,.inr (by simpa using hp)⟩) (hb.frame _),fun _=> ?_⟩;refine ⟨ok_one hr rfl (okWide_bool_mk htb true),_,_,([]++p)++ [],⟨[]++p,[],trodAll_append (hargs _ (fun _ _=>rfl)) (hres _ _ _),hvars _,rfl,?_,?_⟩,?_⟩
 . intro b off hp;have hp':MemPlace.cell b off∈p:=by simpa using hp
   rw [hb.frozen (p:=⟨b,off,none⟩) (hlt _ hp')];exact hz b off hp'
 . intro ha;cases ha
 intro p' hp _;simpa using hp
end
mutual
def SV.sealed(H:List SObj):SV->Option (SV×Prop)
 |.any=>some (.any,True)
 |.raw v=>some (.raw v,True)
 |.isl t xs=>some (.isl t xs,True)
 |.fsl t xs=>some (.isl t xs,True)
 |.iptr t x k=>some (.iptr t x k,True)
 |.dat t x=>some (.dat t x,True)
 |.imap kk ks vs=>some (.imap kk ks vs,True)
 |.bld h t n=>match H[h]? with
  |some (.row t' xs)=>if t=t' then some (.isl t' (xs.take n),n<=xs.length∧xs.length<=1125899906842624) else none
  |_=>none
 |.osl h t off n=>match H[h]? with
  |some (.row t' xs)=>if t=t' then some (.isl t' ((xs.drop off).take n),off+n<=xs.length∧xs.length<=1125899906842624) else none
  |_=>none
 |.mp h=>match H[h]? with
  |some (.map kk ks vs)=>(unrawL vs).map fun us=>(.imap kk ks us,True)
  |_=>none
 |.agg l=>match SV.sealedL H l with
  |some (l',p)=>some (.agg l',p)
  |none=>none
 |.tup l=>match SV.sealedL H l with
  |some (l',p)=>some (.tup l',p)
  |none=>none
 |_=>none
def SV.sealedL(H:List SObj):List SV->Option (List SV×Prop)
 | []=>some ([],True)
 |s :: l=>match SV.sealed H s,SV.sealedL H l with
  |some (s',p),some (l',q)=>some (s' :: l',p∧q)
  |_,_=>none
end
mutual
def SV.leV:SV->SV->Prop
 |s,.isl t xs=>s= .isl t xs∨(s= .raw (.slice none 0 0)∧xs= [])
 |s,.agg l=>match s with
  |.agg l'=>SV.leVL l' l
  |_=>False
 |s,.tup l=>match s with
  |.tup l'=>SV.leVL l' l
  |_=>False
 |s,s'=>s=s'
def SV.leVL:List SV->List SV->Prop
 | [],l=>l= []
 |s :: l,r=>match r with
  | []=>False
  |s' :: l'=>SV.leV s s'∧SV.leVL l l'
end
def j2q{u:Value}:SV.leV (.raw v) (.raw u)=(v=u):=by simp [SV.leV]
def j4I{t:Ty}{xs ys:List t.den}:SV.leV (.isl t xs) (.isl t ys)=(xs=ys):=by simp [SV.leV]
def z6o{t:Ty}{ys:List t.den}:SV.leV (.raw (.slice none 0 0)) (.isl t ys)=(ys= []):=by simp [SV.leV]
def z2T{l l':List SV}:SV.leV (.agg l) (.agg l')=SV.leVL l l':=by rw [SV.leV]
def z2z{l l':List SV}:SV.leV (.tup l) (.tup l')=SV.leVL l l':=by rw [SV.leV]
def j0T{kk kk':Option IntKind}{ks ks' vs':List Value}:SV.leV (.imap kk ks vs) (.imap kk' ks' vs')=(kk=kk'∧ks=ks'∧vs=vs'):=by simp [SV.leV]
variable {s:SV}
def q8a{s':SV}{l l':List SV}:SV.leVL (s :: l) (s' :: l')=(SV.leV s s'∧SV.leVL l l'):=by rw [SV.leVL]
def z4h:SV.leVL [] []=True:=by simp [SV.leVL]
mutual
theorem j0h:∀ (s:SV),SV.leV s s
 |.any=>by simp [SV.leV]
 |.raw _=>by simp [SV.leV]
 |.isl _ _=>by simp [SV.leV]
 |.fsl _ _=>by simp [SV.leV]
 |.iptr .. =>by simp [SV.leV]
 |.ptr .. =>by simp [SV.leV]
 |.rptr .. =>by simp [SV.leV]
 |.bld .. =>by simp [SV.leV]
 |.osl .. =>by simp [SV.leV]
 |.csl .. =>by simp [SV.leV]
 |.dat .. =>by simp [SV.leV]
 |.mp _=>by simp [SV.leV]
 |.imap .. =>by simp [SV.leV]
 |.fn .. =>by simp [SV.leV]
 |.iface .. =>by simp [SV.leV]
 |.agg l=>by rw [z2T];exact q7u l
 |.tup l=>by rw [z2z];exact q7u l
theorem q7u:∀ (l:List SV),SV.leVL l l
 | []=>by rw [z4h];trivial
 |s :: l=>by rw [q8a];exact ⟨j0h s,q7u l⟩
end
mutual
theorem z2g{C:Cx}:∀ {s s':SV} {v:Value},SV.leV s s'->s.den C v->s'.den C v
 |s,.isl t xs,v,h,d=>by
  rw [SV.leV] at h;rcases h with rfl| ⟨rfl,rfl⟩
  . exact d
  rw [SV.den] at d;subst d;rw [SV.den];exact ⟨_,_,_,rfl,rfl,Af _,by simp,.inl rfl⟩
 |.agg l',.agg l,v,h,d=>by rw [z2T] at h;rw [SV.den] at d⊢;obtain ⟨vs,hv,hl⟩:=d;exact ⟨vs,hv,q4P h hl⟩
 |.tup l',.tup l,v,h,d=>by rw [z2z] at h;rw [SV.den] at d⊢;obtain ⟨vs,hv,hl⟩:=d;exact ⟨vs,hv,q4P h hl⟩
 |.any,.agg _,_,h,_=>by simp [SV.leV] at h
 |.raw _,.agg _,_,h,_=>by simp [SV.leV] at h
 |.isl _ _,.agg _,_,h,_=>by simp [SV.leV] at h
 |.fsl _ _,.agg _,_,h,_=>by simp [SV.leV] at h
 |.iptr ..,.agg _,_,h,_=>by simp [SV.leV] at h
 |.ptr ..,.agg _,_,h,_=>by simp [SV.leV] at h
 |.rptr ..,.agg _,_,h,_=>by simp [SV.leV] at h
 |.bld ..,.agg _,_,h,_=>by simp [SV.leV] at h
 |.osl ..,.agg _,_,h,_=>by simp [SV.leV] at h
 |.csl ..,.agg _,_,h,_=>by simp [SV.leV] at h
 |.dat ..,.agg _,_,h,_=>by simp [SV.leV] at h
 |.mp _,.agg _,_,h,_=>by simp [SV.leV] at h
 |.imap ..,.agg _,_,h,_=>by simp [SV.leV] at h
 |.fn ..,.agg _,_,h,_=>by simp [SV.leV] at h
 |.iface ..,.agg _,_,h,_=>by simp [SV.leV] at h
 |.tup _,.agg _,_,h,_=>by simp [SV.leV] at h
 |.any,.tup _,_,h,_=>by simp [SV.leV] at h
 |.raw _,.tup _,_,h,_=>by simp [SV.leV] at h
 |.isl _ _,.tup _,_,h,_=>by simp [SV.leV] at h
 |.fsl _ _,.tup _,_,h,_=>by simp [SV.leV] at h
 |.iptr ..,.tup _,_,h,_=>by simp [SV.leV] at h
 |.ptr ..,.tup _,_,h,_=>by simp [SV.leV] at h
 |.rptr ..,.tup _,_,h,_=>by simp [SV.leV] at h
 |.bld ..,.tup _,_,h,_=>by simp [SV.leV] at h
 |.osl ..,.tup _,_,h,_=>by simp [SV.leV] at h
 |.csl ..,.tup _,_,h,_=>by simp [SV.leV] at h
 |.dat ..,.tup _,_,h,_=>by simp [SV.leV] at h
 |.mp _,.tup _,_,h,_=>by simp [SV.leV] at h
 |.imap ..,.tup _,_,h,_=>by simp [SV.leV] at h
 |.fn ..,.tup _,_,h,_=>by simp [SV.leV] at h
 |.iface ..,.tup _,_,h,_=>by simp [SV.leV] at h
 |.agg _,.tup _,_,h,_=>by simp [SV.leV] at h
 |s,.any,v,h,d=>by simp [SV.leV] at h;subst h;exact d
 |s,.raw _,v,h,d=>by simp [SV.leV] at h;subst h;exact d
 |s,.fsl _ _,v,h,d=>by simp [SV.leV] at h;subst h;exact d
 |s,.iptr ..,v,h,d=>by simp [SV.leV] at h;subst h;exact d
 |s,.ptr ..,v,h,d=>by simp [SV.leV] at h;subst h;exact d
 |s,.rptr ..,v,h,d=>by simp [SV.leV] at h;subst h;exact d
 |s,.bld ..,v,h,d=>by simp [SV.leV] at h;subst h;exact d
 |s,.osl ..,v,h,d=>by simp [SV.leV] at h;subst h;exact d
 |s,.csl ..,v,h,d=>by simp [SV.leV] at h;subst h;exact d
 |s,.dat ..,v,h,d=>by simp [SV.leV] at h;subst h;exact d
 |s,.mp _,v,h,d=>by simp [SV.leV] at h;subst h;exact d
 |s,.imap ..,v,h,d=>by simp [SV.leV] at h;subst h;exact d
 |s,.fn ..,v,h,d=>by simp [SV.leV] at h;subst h;exact d
 |s,.iface ..,v,h,d=>by simp [SV.leV] at h;subst h;exact d
theorem q4P{C:Cx}:∀ {l l':List SV} {vs:List Value},SV.leVL l l'->SV.denL C l vs->SV.denL C l' vs
 | [],l',vs,h,d=>by simp only [SV.leVL] at h;subst h;exact d
 |s :: l,[],vs,h,d=>by simp [SV.leVL] at h
 |s :: l,s' :: l',vs,h,d=>by rw [q8a] at h;obtain ⟨v,us,rfl,h1,h2⟩:=q0d.1 d;exact q0d.2 ⟨v,us,rfl,z2g h.1 h1,q4P h.2 h2⟩
end

def Cx.shut(C:Cx)(H:List SObj):Cx:={C with n:=0,I:=fun b=>C.I b∨OwnB C H b}
mutual
theorem q8J{C:Cx}{H:List SObj}(hw:Wd C H):∀ {s s':SV} {p:Prop} {v:Value},s.sealed H=some (s',p)->p->s.den C v->s'.den (C.shut H) v
 |.any,_,_,_,h,_,_=>by simp [SV.sealed] at h;rw [<-h.1,SV.den];trivial
 |.raw _,_,_,_,h,_,d=>by simp [SV.sealed] at h;rw [<-h.1];rw [SV.den] at d⊢;exact d
 |.isl _ _,_,_,_,h,_,d=>by simp [SV.sealed] at h;rw [<-h.1];exact q0F (C:=C) (C':=C.shut H) (fun b hb=>⟨.inl hb,rfl⟩) rfl d
 |.fsl _ _,_,_,_,h,_,d=>by simp [SV.sealed] at h;rw [<-h.1];rw [SV.den] at d;exact q0F (C:=C) (C':=C.shut H) (fun b hb=>⟨.inl hb,rfl⟩) rfl (by rw [SV.den];exact d.1)
 |.dat ..,_,_,_,h,_,d=>by simp [SV.sealed] at h;rw [<-h.1];exact q0F (C:=C) (C':=C.shut H) (fun b hb=>⟨.inl hb,rfl⟩) rfl d
 |.iptr ..,_,_,_,h,_,d=>by simp [SV.sealed] at h;rw [<-h.1];exact q0F (C:=C) (C':=C.shut H) (fun b hb=>⟨.inl hb,rfl⟩) rfl d
 |.imap ..,_,_,_,h,_,d=>by simp [SV.sealed] at h;rw [<-h.1];exact q0F (C:=C) (C':=C.shut H) (fun b hb=>⟨.inl hb,rfl⟩) rfl d
 |.bld hd t n,s',p,v,h,hp,d=>by
  unfold SV.sealed at h;split at h
  . rename_i t' xs hH;split at h
    . rename_i e;subst e;cases h;have h1:=q4v hw hH hp.2 (s:=.bld hd t n) (by rw [SV.frzOb,if_pos ⟨rfl,rfl⟩];exact hp.1) d;rw [SV.frz,if_pos ⟨rfl,rfl⟩] at h1;exact q0F (C:=C.frz hd) (C':=C.shut H) (fun b hb=>⟨hb.elim .inl (fun e=>.inr ⟨hd,_,hH,rfl,e⟩),rfl⟩) rfl h1
    cases h
  cases h
 |.osl hd t off n,s',p,v,h,hp,d=>by
  unfold SV.sealed at h;split at h
  . rename_i t' xs hH;split at h
    . rename_i e;subst e;cases h;have h1:=q4v hw hH hp.2 (s:=.osl hd t off n) (by rw [SV.frzOb,if_pos ⟨rfl,rfl⟩];exact hp.1) d;rw [SV.frz,if_pos ⟨rfl,rfl⟩] at h1;exact q0F (C:=C.frz hd) (C':=C.shut H) (fun b hb=>⟨hb.elim .inl (fun e=>.inr ⟨hd,_,hH,rfl,e⟩),rfl⟩) rfl h1
    cases h
  cases h
 |.mp hd,s',p,v,h,hp,d=>by
  unfold SV.sealed at h;split at h
  . rename_i kk ks vs hH;obtain ⟨us,hu,h⟩:=Ap.1 h;cases h;obtain rfl:=q4F hu;simp only [SV.den] at d⊢;obtain ⟨_,b,hb,rfl⟩:=d;obtain ⟨b',us',hb',hm,hl⟩:=hw.obj hd _ hH;rw [q1l hl] at hm;rw [hb] at hb';cases hb';exact ⟨b,rfl,.inr ⟨hd,_,hH,rfl,hb⟩,hm⟩
  cases h
 |.agg l,s',p,v,h,hp,d=>by
  unfold SV.sealed at h;split at h
  . cases h;rw [SV.den] at d⊢;obtain ⟨vs,hv,hl⟩:=d;exact ⟨vs,hv,q4t hw (by assumption) hp hl⟩
  cases h
 |.tup l,s',p,v,h,hp,d=>by
  unfold SV.sealed at h;split at h
  . cases h;rw [SV.den] at d⊢;obtain ⟨vs,hv,hl⟩:=d;exact ⟨vs,hv,q4t hw (by assumption) hp hl⟩
  cases h
 |.ptr ..,_,_,_,h,_,_=>by simp [SV.sealed] at h
 |.rptr ..,_,_,_,h,_,_=>by simp [SV.sealed] at h
 |.csl ..,_,_,_,h,_,_=>by simp [SV.sealed] at h
 |.fn ..,_,_,_,h,_,_=>by simp [SV.sealed] at h
 |.iface ..,_,_,_,h,_,_=>by simp [SV.sealed] at h
theorem q4t{C:Cx}{H:List SObj}(hw:Wd C H):∀ {l l':List SV} {p:Prop} {vs:List Value},SV.sealedL H l=some (l',p)->p->SV.denL C l vs->SV.denL (C.shut H) l' vs
 | [],_,_,_,h,_,d=>by simp [SV.sealedL] at h;rw [h.1];rw [q0y] at d⊢;exact d
 |s :: l,l',p,vs,h,hp,d=>by
  unfold SV.sealedL at h;split at h
  . cases h;obtain ⟨v,us,rfl,h1,h2⟩:=q0d.1 d;exact q0d.2 ⟨v,us,rfl,q8J hw (by assumption) hp.1 h1,q4t hw (by assumption) hp.2 h2⟩
  cases h
end
def SealK(s:SV):Out->List SObj->Prop
 |.ret s0,H'=>match s0.sealed H' with
  |some (s1,p)=>p∧SV.leV s1 s
  |none=>False
 |.pan _,_=>False
variable {C:Cx}
theorem z5j{us:Array Value}(hw:Wd C [])(h:Calls P f us C.w fun e w'=>∃o H' C',SealK s o H'∧C'.w=w'∧Wd C' H'∧Ext ⟨C,[]⟩ C' H'∧outDen C' o e):
 Calls P f us C.w fun e w'=>∃o H' C',PK s o H'∧C'.w=w'∧Wd C' H'∧Ext ⟨C,[]⟩ C' H'∧outDen C' o e:=by
 refine h.mono ?_;rintro e w' ⟨o,H',C',hk,rfl,hw',hx,hd⟩;cases o with
 |pan s0=>exact hk.elim
 |ret s0=>
  simp only [SealK] at hk;split at hk
  . rename_i s1 p hs;obtain ⟨v,rfl,hd⟩:=hd;have hn:C.n=0:=hw.n;refine ⟨.ret s,[],C'.shut H',rfl,rfl,⟨rfl,fun h o ho=>by simp at ho,fun b ⟨h,o,ho,_⟩=>by simp at ho,fun h h' o o' b ho=>by simp at ho,?_⟩,⟨⟨by rw [hn];exact Af _,fun h hh=>by rw [hn] at hh;exact absurd hh (Bl h),fun b hb=>⟨.inl (hx.evo.I b hb).1,(hx.evo.I b hb).2⟩,hx.evo.sz⟩,hx.size,hx.os,hx.tape,hx.output,hx.frame,?_,fun b ⟨h,o,ho,_⟩=>by simp at ho,fun _ _ h=>by simp at h⟩,v,rfl,z2g hk.2 (q8J hw' hs hk.1 hd)⟩
    . rintro b (hb|hb)
      . exact hw'.imm b hb
      exact (hw'.own b hb).2
    rintro b (hb|hb)
    . exact hx.immNew b hb
    exact .inr ⟨hx.ownNew b hb,(q4y hw' hb:Unf C'.w b)⟩
  exact hk.elim
def VCall.shut{P:Program}{f:FuncId}{args:List SV}{s:SV}(h:VCall P f args [] (SealK s)):VCall P f args [] (PK s):=
 fun C vs hw ht hv=>z5j hw (h C vs hw ht hv)
def q0n(ha:SV.cleanL args=true)(hs:s.clean=true)(h:VC P f args [] (SealK s)):PC P f args s:=
 q0q ha hs ⟨h.1,VCall.shut h.2⟩
attribute [go_sem] SealK SV.sealed SV.sealedL j2q j4I z6o z2T z2z j0T q8a z4h
section
variable [Ghost] {P:Program} {AQ:Ex->List SV->List SObj->Prop} {k0:Nat} {k:List IT} {t:List SV} {H:List SObj}
def q5X{c:IC}(slot:Nat)(ty:Ty)(xs:Nat->List ty.den)(upd:Nat->List (Nat×SV))(n:Nat)(q:Nat->Prop)(hi:t[slot]?=some (.raw (.slice none 0 0)))(hk:k0<=H.length)(hx0:xs 0= [])(hbh:belH H.length H=true)(hu:∀i,((upd i).all fun x=>x.2.bel (H.length+1))=true)
 (hs:leM (t.set slot (.bld H.length ty 0)) (setMany (maskT c.wr (t.set slot (.bld H.length ty 0))) ((slot,.bld H.length ty 0) :: upd 0)))
 (round:∀i,i<=n->(∀j,j<i->q j)->SoundI P AQ ⟨k0,.ic c :: .stop (RoundA H ty (fun i=>setMany (maskT c.wr (t.set slot (.bld H.length ty 0))) ((slot,.bld H.length ty (xs i).length) :: upd i)) xs n (fun i=>∀j,j<i->q j) i) :: k,setMany (maskT c.wr (t.set slot (.bld H.length ty 0))) ((slot,.bld H.length ty (xs i).length) :: upd i),H++ [.row ty (xs i)]⟩):
 SoundI P AQ ⟨k0,.ic (.loop c) :: k,t,H⟩:=
 z1k slot ty rfl hi (j2x slot ty xs upd n q hk hx0 hbh hu hs round)
def q3j{ty:Ty}{S:Nat->List SV}{xs:Nat->List ty.den}{n i:Nat}{p:Nat->Prop}{t':List SV}{H':List SObj}(G G':List SObj)(hlt:i<n)(hp:p (i+1))(hH:H'=H++G++ [.row ty (xs (i+1))]++G')(hl:leT (shift H.length (H.length+G.length)) t' (S (i+1))):RoundA H ty S xs n p i t' H':=
 ⟨hlt,hp,G,G',hH,hl⟩
def z2s{k:List It}(c:Code)(ty:Ty)(S:Nat->List SV)(xs:Nat->List ty.den)(n:Nat)(p:Nat->Prop)(h₀:p 0)(hs:leM t (S 0))(hk:k0<=H.length)(hbh:belH H.length H=true)(hb:SV.belL (H.length+1) t=true->∀i,SV.belL (H.length+1) (S i)=true)
 (round:∀i,i<=n->p i->Sound P AQ ⟨k0,.code c :: .stop (RoundA H ty S xs n p i) :: k,S i,H++ [.row ty (xs i)]⟩):Sound P AQ ⟨k0,.code (.loop c) :: k,t,H++ [.row ty (xs 0)]⟩:=fun E r m C a h0 hd=>by
 have hbt:∀i,SV.belL (H.length+1) (S i)=true:=hb (by have:=q1A hd.tmps;rw [hd.wd.n] at this;simpa using this);have hbh':∀ys:List ty.den,belH (H.length+1) (H++ [.row ty ys])=true:=fun ys=>q4D fun h o ho=>by
  rcases q0p ho with ⟨_,ho⟩ | ⟨_,rfl⟩
  . have:=q5D (hd.wd.obj h o (by rw [Ai (Ag.1 ho).1];exact ho));rw [hd.wd.n] at this;simpa using this
  rfl
 simp only [wpT];refine q0R (fun m a w=>∃i,i<=n∧p i∧n-i=m∧∃C,C.w=w∧Den E C (S i) (H++ [.row ty (xs i)]) a) n ⟨0,Al _,h₀,rfl,C,rfl,hd.wd,hd.ext,hd.defs,q2L (q3h hs) hd.tmps⟩ ?_;rintro m' a w ⟨i,hi,hp,rfl,C,rfl,hd⟩;have h1:=round i hi hp E r m C a h0 hd;simp only [wpT] at h1;refine wpIn_mono h1 fun e a w hq=> ?_;cases e with
 |normal=>
  obtain ⟨C',t',H',⟨hlt,hp',G,G',rfl,hS⟩,rfl,hd'⟩:=hq;refine ⟨n- (i+1),by omega,i+1,hlt,hp',rfl,C'.ren (shift H.length (H.length+G.length)) (H++ [SObj.row ty (xs (i+1))]).length,rfl,?_⟩;have hsh:∀h,h<H.length->shift H.length (H.length+G.length) h=h:=fun h hh=>by unfold shift;rw [if_neg (by omega)]
  have hshn:shift H.length (H.length+G.length) H.length=H.length+G.length:=by unfold shift;rw [if_pos rfl]
  refine q7x h0.1 hd' hS (by simpa using hbt (i+1)) (fun h o ho hl=> ?_) (by simpa using hbh' (xs (i+1))) (fun h h' o o' ho ho' _ _ e=> ?_) (fun h hh=>hsh h (An hh hk)) (by simp;exact Nat.le_succ_of_le hk) (fun _ hp hn=>z4k (An hp (As h0.1 hk)) (by simpa only [List.append_assoc] using hn))
  . rcases q0p ho with ⟨hh,ho⟩ | ⟨hh,rfl⟩
    . rw [hsh h hh];have hr:o.ren (shift H.length (H.length+G.length))=o:=by
       have hbo:=q2I hbh ho;cases o with
       |cells T cs=>simp only [SObj.ren];rw [q9N.2 (by simpa [SObj.bel] using hbo)]
       |map kk ks vs=>simp only [SObj.ren];rw [q9N.2 (by simpa [SObj.bel] using hbo)]
       |_=>rfl
      rw [hr,List.append_assoc,List.append_assoc,Ai hh];exact ho
    subst hh;rw [hshn];simp [SObj.ren]
  have hlen:∀ {h:Nat} {o:SObj},(H++ [SObj.row ty (xs (i+1))])[h]?=some o->h<=H.length:=fun ho=>by have:=(Ag.1 ho).1;simp at this;omega
  have g1:=hlen ho;have g2:=hlen ho';unfold shift at e;split at e<;>split at e<;>omega
 |exit id=>simpa only [Exit.then,exitT] using hq
 |_=>exact hq
theorem j3p{c:IC}(slot:Nat)(ty:Ty)(xs:Nat->List ty.den)(upd:Nat->List (Nat×SV))(n:Nat)(q:Nat->Prop){r0:List ty.den}(hr:r0=xs 0)(hk:k0<=H.length)(hbh:belH H.length H=true)(hu:∀i,((upd i).all fun x=>x.2.bel (H.length+1))=true)
 (hs:leM t (setMany (maskT c.wr t) ((slot,.bld H.length ty (xs 0).length) :: upd 0)))
 (round:∀i,i<=n->(∀j,j<i->q j)->SoundI P AQ ⟨k0,.ic c :: .stop (RoundA H ty (fun i=>setMany (maskT c.wr t) ((slot,.bld H.length ty (xs i).length) :: upd i)) xs n (fun i=>∀j,j<i->q j) i) :: k,setMany (maskT c.wr t) ((slot,.bld H.length ty (xs i).length) :: upd i),H++ [.row ty (xs i)]⟩):
 SoundI P AQ ⟨k0,.ic (.loop c) :: k,t,H++ [.row ty r0]⟩:=by
 subst hr
 exact q0f (fun td' hr=>by
 obtain ⟨c',r,rfl,hc,hr⟩:=hr;obtain ⟨x,rfl,hx⟩:=q0L hc;refine z2s x ty _ xs n _ (fun j hj=>absurd hj (Bl j)) hs hk hbh (fun hb i=>q2U _ ?_ (q2V _ hb)) (fun i hi hp=>q0g (round i hi hp) ⟨x,_,rfl,hx,r,rfl,hr⟩);rw [BC,Am]
 exact ⟨by rw [SV.bel];simp,hu i⟩) rfl
def PC.arg{f:FuncId}{args args':List SV}{s:SV}(h:PC P f args s)(hl:SV.leVL args' args):PC P f args' s:=
 ⟨h.1,fun H K hk C vs hw ht hv=>h.2 H K hk C vs hw ht (q4P hl hv)⟩
end
section

variable [Ghost] {P:Program} {AQ:Ex->List SV->List SObj->Prop} {k0:Nat} {k:List IT} {t:List SV} {H:List SObj}

def sig:List Nat->Nat->Nat->Nat
 | [],N,h=>N+h
 |x :: _,_,0=>x
 |_ :: l,N,h+1=>sig l N h
def mgA(σ:Nat->Nat):List Nat->List SObj->List SObj->List SObj
 | [],l,H=>H++l.map (SObj.ren σ)
 |x :: r,o :: l,H=>mgA σ r l (H.set x (o.ren σ))
 |_ :: _,[],H=>H
def Out.ren(σ:Nat->Nat):Out->Out
 |.ret s=>.ret (s.ren σ)
 |.pan s=>.pan (s.ren σ)
def atH(σ:Nat->Nat)(H:List SObj):List Nat->List SObj->Prop
 | [],[]=>True
 |x :: r,o :: l=>H[x]?=some (o.ren σ)∧o.live=true∧atH σ H r l
 |_,_=>False

def z6c{σ:Nat->Nat}:∀ {r:List Nat} {l:List SObj},atH σ H r l->r.length=l.length
 | [],[],_=>rfl
 |_ :: r,_ :: l,h=>by simp [z6c h.2.2]
 | [],_ :: _,h=>h.elim
 |_ :: _,[],h=>h.elim
def z6s{σ:Nat->Nat}{N:Nat}:∀ {r:List Nat} {l:List SObj} {h:Nat} {o:SObj},atH σ H r l->l[h]?=some o->H[sig r N h]?=some (o.ren σ)∧o.live=true∧sig r N h∈r
 | [],[],_,_,_,hi=>by simp at hi
 |x :: r,o' :: l,0,o,ha,hi=>by simp at hi;subst hi;exact ⟨ha.1,ha.2.1,by simp [sig]⟩
 |x :: r,o' :: l,h+1,o,ha,hi=>by simp at hi;obtain ⟨g1,g2,g3⟩:=z6s (N:=N) ha.2.2 hi;exact ⟨g1,g2,by simp only [sig];exact AM _ g3⟩
 | [],_ :: _,_,_,h,_=>h.elim
 |_ :: _,[],_,_,h,_=>h.elim
def z8d:∀ {r:List Nat} {N x:Nat},x∈r->∃h,h<r.length∧sig r N h=x
 |y :: r,N,x,hx=>by
  rcases Bm.1 hx with e|e
  . exact ⟨0,by simp,by simp [sig,e]⟩
  obtain ⟨h,h1,h2⟩:=z8d (N:=N) e;exact ⟨h+1,by simp;exact h1,by simp only [sig];exact h2⟩
 | [],_,_,hx=>by simp at hx
def z8X:∀ {r:List Nat} {N h h':Nat},r.Nodup->h<r.length->h'<r.length->sig r N h=sig r N h'->h=h'
 |x :: r,N,0,0,_,_,_,_=>rfl
 |x :: r,N,0,h'+1,hn,_,hl,he=>by simp only [sig] at he;have:sig r N h'∈r:=sig_in (by simpa using hl);rw [<-he] at this;exact absurd this (BK.1 hn).1
 |x :: r,N,h+1,0,hn,hl,_,he=>by simp only [sig] at he;have:sig r N h∈r:=sig_in (by simpa using hl);rw [he] at this;exact absurd this (BK.1 hn).1
 |x :: r,N,h+1,h'+1,hn,hl,hl',he=>by simp only [sig] at he;rw [z8X (BK.1 hn).2 (by simpa using hl) (by simpa using hl') he]
 | [],_,_,_,_,hl,_,_=>by simp at hl
where sig_in:∀ {r:List Nat} {N h:Nat},h<r.length->sig r N h∈r
 |x :: r,N,0,_=>by simp [sig]
 |x :: r,N,h+1,hl=>by simp only [sig];exact AM _ (sig_in (by simpa using hl))
 | [],_,_,hl=>by simp at hl
def z6j:∀ {r:List Nat} {N h:Nat},r.length<=h->sig r N h=N+ (h-r.length)
 | [],N,h,_=>by simp [sig]
 |x :: r,N,h+1,hl=>by simp only [sig];rw [z6j (by simpa using hl)];simp
 |x :: r,N,0,hl=>by simp at hl

def z7O{σ:Nat->Nat}:∀ {r:List Nat} {l H:List SObj},r.length<=l.length->(mgA σ r l H).length=H.length+ (l.length-r.length)
 | [],l,H,_=>by simp [mgA]
 |x :: r,o :: l,H,h=>by rw [mgA,z7O (by simpa using h)];simp
 |_ :: _,[],_,h=>by simp at h
def z8z{σ:Nat->Nat}:∀ {r:List Nat} {l H:List SObj} {i:Nat} {o:SObj},r.length<=l.length->(mgA σ r l H)[i]?=some o->
 (∃k oo,l[k]?=some oo∧o=oo.ren σ∧i=sig r H.length k)∨(i ∉ r∧H[i]?=some o)
 | [],l,H,i,o,_,h=>by
  rw [mgA] at h;rcases AI i H.length with hl|hl
  . rw [Ai hl] at h;exact .inr ⟨by simp,h⟩
  rw [Ao hl,AF] at h;cases hk:l[i-H.length]? with
  |none=>rw [hk] at h;cases h
  |some oo=>rw [hk] at h;cases h;exact .inl ⟨_,oo,hk,rfl,by simp only [sig];omega⟩
 |x :: r,o' :: l,H,i,o,hl,h=>by
  rw [mgA] at h;rcases z8z (by simpa using hl) h with ⟨k,oo,h1,h2,h3⟩ | ⟨h1,h2⟩
  . exact .inl ⟨k+1,oo,by simpa using h1,h2,by simp only [sig];rw [h3];simp⟩
  by_cases e:i=x
  . subst e;rcases AI i H.length with hi|hi
    . rw [Ar hi] at h2;cases h2;exact .inl ⟨0,o',rfl,rfl,rfl⟩
    rw [AW (by simpa using hi)] at h2;cases h2
  rw [Aq (Ne.symm e)] at h2;exact .inr ⟨by simp [e,h1],h2⟩
 |_ :: _,[],_,_,_,hl,_=>by simp at hl

/- Values that are carried to another context. -/
mutual
theorem z3x{C D:Cx}{σ:Nat->Nat}(hρ:∀h,h<C.n->D.ρ (σ h)=C.ρ h∧σ h<D.n)(hI:D.I=C.I)(hW:D.w=C.w):∀ {s:SV} {v:Value},s.den C v->(s.ren σ).den D v
 |.any,_,_=>by rw [SV.ren,SV.den];trivial
 |.raw _,_,d=>by rw [SV.den] at d;rw [SV.ren,SV.den];exact d
 |.isl _ _,_,d=>by rw [SV.den] at d;rw [SV.ren,SV.den,hI,hW];exact d
 |.fsl _ _,_,d=>by rw [SV.den] at d;rw [SV.ren,SV.den,hI,hW];exact d
 |.iptr _ _ _,_,d=>by rw [SV.den] at d;rw [SV.ren,SV.den,hI,hW];exact d
 |.dat _ _,_,d=>by rw [SV.den] at d;rw [SV.ren,SV.den,hI,hW];exact d
 |.ptr h off,_,d=>by rw [SV.den] at d;rw [SV.ren,SV.den,(hρ h d.1).1];exact ⟨(hρ h d.1).2,d.2⟩
 |.rptr h t i k,_,d=>by rw [SV.den] at d;rw [SV.ren,SV.den,(hρ h d.1).1];exact ⟨(hρ h d.1).2,d.2⟩
 |.bld h t m,_,d=>by rw [SV.den] at d;rw [SV.ren,SV.den,(hρ h d.1).1,hW];exact ⟨(hρ h d.1).2,d.2⟩
 |.osl h t off m,_,d=>by rw [SV.den] at d;rw [SV.ren,SV.den,(hρ h d.1).1];exact ⟨(hρ h d.1).2,d.2⟩
 |.csl h t k i m,_,d=>by rw [SV.den] at d;rw [SV.ren,SV.den,(hρ h d.1).1];exact ⟨(hρ h d.1).2,d.2⟩
 |.mp h,_,d=>by rw [SV.den] at d;rw [SV.ren,SV.den,(hρ h d.1).1];exact ⟨(hρ h d.1).2,d.2⟩
 |.imap ..,_,d=>by rw [SV.den] at d;rw [SV.ren,SV.den,hI,hW];exact d
 |.agg l,_,d=>by rw [SV.den] at d;rw [SV.ren,SV.den];obtain ⟨vs,hv,hl⟩:=d;exact ⟨vs,hv,q4A hρ hI hW hl⟩
 |.tup l,_,d=>by rw [SV.den] at d;rw [SV.ren,SV.den];obtain ⟨vs,hv,hl⟩:=d;exact ⟨vs,hv,q4A hρ hI hW hl⟩
 |.fn f a b,_,d=>by rw [SV.den] at d;rw [SV.ren,SV.den];obtain ⟨v1,v2,hv,h1,h2⟩:=d;exact ⟨v1,v2,hv,q4A hρ hI hW h1,q4A hρ hI hW h2⟩
 |.iface T x,_,d=>by rw [SV.den] at d;rw [SV.ren,SV.den];obtain ⟨u,hv,h1⟩:=d;exact ⟨u,hv,z3x hρ hI hW h1⟩
theorem q4A{C D:Cx}{σ:Nat->Nat}(hρ:∀h,h<C.n->D.ρ (σ h)=C.ρ h∧σ h<D.n)(hI:D.I=C.I)(hW:D.w=C.w):∀ {l:List SV} {vs:List Value},SV.denL C l vs->SV.denL D (SV.renL σ l) vs
 | [],_,d=>by rw [SV.denL] at d;rw [SV.renL,SV.denL];exact d
 |s :: l,_,d=>by rw [SV.denL] at d;rw [SV.renL,SV.denL];obtain ⟨v,us,rfl,h1,h2⟩:=d;exact ⟨v,us,rfl,z3x hρ hI hW h1,q4A hρ hI hW h2⟩
end
def objUp{D:Cx}{σ:Nat->Nat}{h:Nat}(hρ:∀h,h<C.n->D.ρ (σ h)=C.ρ h∧σ h<D.n)(hI:D.I=C.I)(hW:D.w=C.w)(hh:h<C.n):∀ {o:SObj},objDen C h o->objDen D (σ h) (o.ren σ)
 |.dead,_=>trivial
 |.cells T cs,⟨b,vs,h1,h2,h3⟩=>⟨b,vs,(hρ h hh).1.trans h1,by rw [hW];exact h2,q4A hρ hI hW h3⟩
 |.row t xs,d=>by simp only [SObj.ren,objDen] at d⊢;rw [(hρ h hh).1,hI,hW];exact d
 |.map kk ks vs,⟨b,us,h1,h2,h3⟩=>⟨b,us,(hρ h hh).1.trans h1,by rw [hW];exact h2,q4A hρ hI hW h3⟩
 |.mark _,_=>trivial

def z4i{σ:Nat->Nat}{x:Nat}{o:SObj}:∀ {hs:List Nat} {l H:List SObj},x ∉ hs->H[x]?=some o->(mgA σ hs l H)[x]?=some o
 | [],l,H,_,h=>by rw [mgA,Ai (Ag.1 h).1];exact h
 |y :: r,o' :: l,H,hx,h=>by rw [mgA];refine z4i (fun h1=>hx (AM _ h1)) ?_;rw [Aq (fun e=>hx (by rw [e];exact Bp))];exact h
 |_ :: _,[],H,_,h=>h
theorem VCall.fr{f:FuncId}{args:List SV}{H0:List SObj}{K0 K:Out->List SObj->Prop}(hs:List Nat)(hnd:hs.Nodup)(ha:atH (sig hs H.length) H hs H0)(hb:SV.belL H0.length args=true)(hbh:belH H0.length H0=true)
 (hc:VCall P f args H0 K0)(hk:∀o H',H0.length<=H'.length->K0 o H'->K (o.ren (sig hs H.length)) (mgA (sig hs H.length) hs H' H)):
 VCall P f (SV.renL (sig hs H.length) args) H K:=by
 intro C vs hw ht hv;have hlen:=z6c ha;generalize hσ:sig hs H.length=σ at*;have hget:∀ {h o},H0[h]?=some o->H[σ h]?=some (o.ren σ)∧o.live=true∧σ h∈hs:=fun hh=>by have:=z6s (N:=H.length) ha hh;rw [hσ] at this;exact this
 let C0:Cx:=C.ren σ H0.length
 have hown0:∀b,OwnB C0 H0 b->∃h,h<H0.length∧C.ρ (σ h)=some b∧OwnB C H b:=by rintro b ⟨i,o,ho,hl,hbb⟩;exact ⟨i,(Ag.1 ho).1,hbb,σ i,_,(hget ho).1,by rw [q1a];exact hl,hbb⟩
 have hw0:Wd C0 H0:=by
  refine ⟨rfl,fun i o ho=>objRen (q2I hbh ho) (hw.obj _ _ (hget ho).1),fun b hb'=> ?_,fun i j o o' b ho ho' hl hl' hb1 hb2=> ?_,hw.imm⟩
  . obtain ⟨_,_,_,h1⟩:=hown0 b hb';exact hw.own b h1
  have e:=hw.inj (σ i) (σ j) _ _ b (hget ho).1 (hget ho').1 (by rw [q1a];exact hl) (by rw [q1a];exact hl') hb1 hb2;rw [<-hσ] at e;exact z8X hnd (by rw [hlen];exact (Ag.1 ho).1) (by rw [hlen];exact (Ag.1 ho').1) e
 refine (hc C0 vs hw0 (ht.sub rfl (fun _ h=>h) fun b hb=>(hown0 b hb).elim fun _ h=>h.2.2) (q2H hb hv)).mono ?_;rintro e w' ⟨o,H',C',hK,rfl,hw',hx,hd⟩;have hn:H0.length<=H'.length:=by have:=hx.evo.n;rw [hw'.n] at this;exact this
 have hsl:hs.length<=H'.length:=by omega
 let D:Cx:={ρ:=fun i=>if i<H.length then C.ρ i else C'.ρ (H0.length+ (i-H.length)),n:=H.length+ (H'.length-H0.length),I:=C'.I,w:=C'.w}
 have hlt:∀h,h<H0.length->σ h<H.length:=fun h hh=>(Ag.1 (hget (Ac hh)).1).1;have hout:∀h,H0.length<=h->σ h=H.length+ (h-H0.length):=fun h hh=>by rw [<-hσ,z6j (by omega),hlen]
 have hρ:∀h,h<C'.n->D.ρ (σ h)=C'.ρ h∧σ h<D.n:=by
  intro h hh;rw [hw'.n] at hh;rcases AI h H0.length with h1|h1
  . have:=hlt h h1;refine ⟨?_,by show σ h<H.length+ (H'.length-H0.length);omega⟩;show (if σ h<H.length then C.ρ (σ h) else _)=_;rw [if_pos this];exact (hx.evo.ρ h h1).symm
  have:=hout h h1;refine ⟨?_,by show σ h<H.length+ (H'.length-H0.length);omega⟩;show (if σ h<H.length then C.ρ (σ h) else C'.ρ (H0.length+ (σ h-H.length)))=_;rw [if_neg (by omega)];congr 1;omega
 have hevo:Evo C D:=⟨by rw [hw.n];exact CB _ _,fun x hxl=>by
  show (if x<H.length then C.ρ x else _)=_
  rw [if_pos (by rw [hw.n] at hxl;exact hxl)],hx.evo.I,hx.evo.sz⟩
 have hgetM:∀ {i oo},(mgA σ hs H' H)[i]?=some oo->(∃h o',H'[h]?=some o'∧oo=o'.ren σ∧i=σ h)∨(i ∉ hs∧H[i]?=some oo):=fun hh=>by
  rcases z8z hsl hh with ⟨k,o',g1,g2,g3⟩ |g
  . rw [hσ] at g3;exact .inl ⟨k,o',g1,g2,g3⟩
  exact .inr g
 have hfar:∀i oo b,i ∉ hs->H[i]?=some oo->oo.live=true->C.ρ i=some b->¬OwnB C0 H0 b:=by rintro i oo b hi ho hl hb' ⟨h,o',ho',hl',hb2⟩;have e:=hw.inj i (σ h) _ _ b ho (hget ho').1 hl (by rw [q1a];exact hl') hb' hb2;exact hi (e▸ (hget ho').2.2)
 have hDρ:∀i oo,H[i]?=some oo->D.ρ i=C.ρ i:=fun i oo ho=>by show (if i<H.length then C.ρ i else _)=_;rw [if_pos (Ag.1 ho).1]
 have hownD:∀b,OwnB D (mgA σ hs H' H) b->OwnB C' H' b∨(OwnB C H b∧¬OwnB C0 H0 b):=by
  rintro b ⟨i,oo,ho,hl,hb'⟩;rcases hgetM ho with ⟨h,o',g1,rfl,rfl⟩ | ⟨g1,g2⟩
  . rw [(hρ h (by rw [hw'.n];exact (Ag.1 g1).1)).1] at hb';exact .inl ⟨h,o',g1,by rw [q1a] at hl;exact hl,hb'⟩
  rw [hDρ i oo g2] at hb';exact .inr ⟨⟨i,oo,g2,hl,hb'⟩,hfar i oo b g1 g2 hl hb'⟩
 refine ⟨o.ren σ,mgA σ hs H' H,D,hk o H' hn hK,rfl,⟨?_,?_,?_,?_,hw'.imm⟩,⟨hevo,hx.size,hx.os,hx.tape,hx.output,?_,?_,?_,fun n _ hn=>z4i (fun h0=>by
  obtain ⟨h,hh,he⟩:=z8d (N:=H.length) h0;rw [hσ] at he;have hg:=hget (Ac (show h<H0.length by omega));have h1:H[0]?=some (H0[h].ren σ):=by rw [<-he];exact hg.1
  rw [hn] at h1;have h2:=hg.2.1;rw [<-q1a σ,<-Option.some.inj h1] at h2
  simp [SObj.live] at h2) hn⟩,?_⟩
 . rw [z7O hsl,hlen]
 . intro i oo ho;rcases hgetM ho with ⟨h,o',g1,rfl,rfl⟩ | ⟨g1,g2⟩
   . exact objUp hρ rfl rfl (by rw [hw'.n];exact (Ag.1 g1).1) (hw'.obj h o' g1)
   by_cases hl:oo.live=true
   . exact q0E (C':=D) hevo.I i (hDρ i oo g2) (fun b hb'=>hx.frame b (hw.own b ⟨i,oo,g2,hl,hb'⟩).2 (hfar i oo b g1 g2 hl hb')) (q0h hevo) (hw.obj i oo g2)
   cases oo<;>first|trivial|simp [SObj.live] at hl
 . intro b hb';rcases hownD b hb' with h1| ⟨h1,h2⟩
   . exact hw'.own b h1
   obtain ⟨g1,g2⟩:=hw.own b h1;refine ⟨fun hi=> ?_,An g2 hx.size⟩;rcases hx.immNew b hi with q| ⟨q|q,_⟩
   . exact g1 q
   . exact absurd g2 (AT.2 q)
   exact h2 q
 . intro i j oo oo' b ho ho' hl hl' hb1 hb2;rcases hgetM ho with ⟨h,o',g1,rfl,rfl⟩ | ⟨g1,g2⟩ <;>rcases hgetM ho' with ⟨h',o'',g1',rfl,rfl⟩ | ⟨g1',g2'⟩
   . rw [(hρ h (by rw [hw'.n];exact (Ag.1 g1).1)).1] at hb1;rw [(hρ h' (by rw [hw'.n];exact (Ag.1 g1').1)).1] at hb2;rw [q1a] at hl hl';rw [hw'.inj h h' _ _ b g1 g1' hl hl' hb1 hb2]
   . rw [(hρ h (by rw [hw'.n];exact (Ag.1 g1).1)).1] at hb1;rw [hDρ j oo' g2'] at hb2;rw [q1a] at hl;rcases hx.ownNew b ⟨h,o',g1,hl,hb1⟩ with q|q
     . exact absurd (hw.own b ⟨j,oo',g2',hl',hb2⟩).2 (AT.2 q)
     exact absurd q (hfar j oo' b g1' g2' hl' hb2)
   . rw [(hρ h' (by rw [hw'.n];exact (Ag.1 g1').1)).1] at hb2;rw [hDρ i oo g2] at hb1;rw [q1a] at hl';rcases hx.ownNew b ⟨h',o'',g1',hl',hb2⟩ with q|q
     . exact absurd (hw.own b ⟨i,oo,g2,hl,hb1⟩).2 (AT.2 q)
     exact absurd q (hfar i oo b g1 g2 hl hb1)
   rw [hDρ i oo g2] at hb1;rw [hDρ j oo' g2'] at hb2;exact hw.inj i j oo oo' b g2 g2' hl hl' hb1 hb2
 . intro b hb' ho;refine hx.frame b hb' fun hq=> ?_;obtain ⟨_,_,_,h1⟩:=hown0 b hq;exact ho h1
 . intro b hb';rcases hx.immNew b hb' with q| ⟨q|q,u⟩
   . exact .inl q
   . exact .inr ⟨.inl q,u⟩
   obtain ⟨_,_,_,h1⟩:=hown0 b q;exact .inr ⟨.inr h1,u⟩
 . intro b hb';rcases hownD b hb' with h1| ⟨h1,_⟩
   . rcases hx.ownNew b h1 with q|q
     . exact .inl q
     obtain ⟨_,_,_,h2⟩:=hown0 b q;exact .inr h2
   exact .inr h1
 cases o with
 |ret s=>obtain ⟨v,rfl,hd⟩:=hd;exact ⟨v,rfl,z3x hρ rfl rfl hd⟩
 |pan s=>obtain ⟨v,rfl,hd⟩:=hd;exact ⟨v,rfl,z3x hρ rfl rfl hd⟩

def Out.val:Out->SV
 |.ret s=>s
 |.pan s=>s
def Out.withV:Out->SV->Out
 |.ret _,s=>.ret s
 |.pan _,s=>.pan s
def SV.leW1(s s':SV):Prop:=s=s'∨s'= .any∨∃t xs,s'= .isl t xs∧(s= .fsl t xs∨(s= .raw (.slice none 0 0)∧xs= []))
def SV.leWL:List SV->List SV->Prop
 | [],[]=>True
 |s :: l,s' :: l'=>SV.leW1 s s'∧SV.leWL l l'
 |_,_=>False
def SV.leW(s s':SV):Prop:=SV.leW1 s s'∨∃l l',s= .tup l∧s'= .tup l'∧SV.leWL l l'
def z3n{s':SV}(h:SV.leW1 s s')(d:s.den C v):s'.den C v:=by
 rcases h with rfl|rfl| ⟨t,xs,rfl,rfl| ⟨rfl,rfl⟩⟩
 . exact d
 . rw [SV.den];trivial
 . rw [SV.den] at d;rw [SV.den];exact d.1
 exact z2g (by rw [z6o]) d
def z3C{C:Cx}:∀ {l l':List SV} {vs:List Value},SV.leWL l l'->SV.denL C l vs->SV.denL C l' vs
 | [],[],_,_,d=>d
 |s :: l,s' :: l',_,h,d=>by obtain ⟨v,us,rfl,h1,h2⟩:=q0d.1 d;exact q0d.2 ⟨v,us,rfl,z3n h.1 h1,z3C h.2 h2⟩
 | [],_ :: _,_,h,_=>h.elim
 |_ :: _,[],_,h,_=>h.elim
def j2X{s':SV}(h:SV.leW s s')(d:s.den C v):s'.den C v:=by
 rcases h with h| ⟨l,l',rfl,rfl,h⟩
 . exact z3n h d
 rw [SV.den] at d⊢;obtain ⟨vs,hv,hl⟩:=d;exact ⟨vs,hv,z3C h hl⟩
def Weak(k0:Nat)(K:Out->List SObj->Prop):Out->List SObj->Prop:=fun o H'=>∃σ s2 s3 H2,Le σ k0 [o.val] H' [s2] H2∧SV.leW s2 s3∧K (o.withV s3) H2
theorem VCall.weak{f:FuncId}{args:List SV}{K:Out->List SObj->Prop}(h:VCall P f args H (Weak H.length K)):VCall P f args H K:=by
 intro C vs hw ht hv;refine (h C vs hw ht hv).mono ?_;rintro e w' ⟨o,H',C',⟨σ,s2,s3,H2,hle,hw3,hk⟩,rfl,hw',hx,hd⟩;have key:∀v,o.val.den C' v->∃D:Cx,D.w=C'.w∧Wd D H2∧Ext ⟨C,H⟩ D H2∧s3.den D v:=by
  intro v hv';have hden: @Den noGhost ⟨⟨C,H⟩,[]⟩ C' [o.val] H' {tmps:= #[v],defers:=[]}:=⟨hw',hx,⟨rfl,⟨ht.next hx,ht.lt⟩,trivial⟩,q0d.2 ⟨v,[],rfl,hv',q0y.2 rfl⟩⟩
  have g:= @Le.wd noGhost _ _ _ _ _ _ _ _ _ hle (Db hw.n) hden;obtain ⟨v',us,he,hs2,_⟩:=q0d.1 g.tmps;cases he;exact ⟨C'.ren σ H2.length,rfl,g.wd,g.ext,j2X hw3 hs2⟩
 cases o with
 |ret s=>obtain ⟨v,rfl,hd⟩:=hd;obtain ⟨D,h1,h2,h3,h4⟩:=key v hd;exact ⟨.ret s3,H2,D,hk,h1,h2,h3,v,rfl,h4⟩
 |pan s=>obtain ⟨v,rfl,hd⟩:=hd;obtain ⟨D,h1,h2,h3,h4⟩:=key v hd;exact ⟨.pan s3,H2,D,hk,h1,h2,h3,v,rfl,h4⟩
def z7A{K:Out->List SObj->Prop}(h:VC P f args H (Weak H.length K)):VC P f args H K:=⟨h.1,VCall.weak h.2⟩

def PE(P:Program)(f:FuncId)(args:List SV)(H0:List SObj)(o:Out)(H1:List SObj):Prop:=VC P f args H0 fun o' H'=>o'=o∧H'=H1
def z9h{H0 H1:List SObj}{o:Out}(h:VC P f args H0 (Weak H0.length fun o' H'=>o'=o∧H'=H1)):PE P f args H0 o H1:=z7A h

def afterO(P:Program)(AQ:Ex->List SV->List SObj->Prop)(d:Option Tmp)(m:IM):Out->List SObj->Prop
 |.ret s,H'=>SoundI P AQ {m with tmps:=putT m.tmps d s,heap:=H'}
 |.pan s,H'=>AQ (.pan s) m.tmps H'

variable {d:Option Tmp}{m:IM}
theorem q0i{args0:List SV}{H0 H1:List SObj}{o:Out}(hs:List Nat)(hp:PE P f args0 H0 o H1)(hargs:args=SV.renL (sig hs m.heap.length) args0)(hnd:hs.Nodup)
 (ha:atH (sig hs m.heap.length) m.heap hs H0)(hb:SV.belL H0.length args0=true)(hbh:belH H0.length H0=true)
 (h:afterO P AQ d m (o.ren (sig hs m.heap.length)) (mgA (sig hs m.heap.length) hs H1 m.heap)):CallI P AQ f args d m:=by
 subst hargs;refine ⟨hp.1,VCall.g (VCall.fr hs hnd ha hb hbh hp.2 ?_)⟩;rintro o' H' _ ⟨rfl,rfl⟩;cases o'<;>exact h
def effE{args0:List SV}{H0 H1:List SObj}{q:Prop}(hm:P.follows .mixedOrders=true)(hs:List Nat)(hp:PE P f args0 H0 (.ret s) H1)(h:q)(hargs:args=SV.renL (sig hs m.heap.length) args0:=by rfl)(hnd:hs.Nodup:=by decide)
 (ha:atH (sig hs m.heap.length) m.heap hs H0:=by (repeat first|exact trivial|exact rfl|refine And.intro ?_ ?_))(hb:SV.belL H0.length args0=true:=by rfl)(hbh:belH H0.length H0=true:=by rfl)
 (e:run P AQ 600 {m with tmps:=putT m.tmps d (s.ren (sig hs m.heap.length)),heap:=mgA (sig hs m.heap.length) hs H1 m.heap}=q:=by (simp only [Out.ren,SV.ren,mgA,sig,SObj.ren,SV.renL,List.set,List.map,Ah];simp (maxSteps:=3000000) only [go_sem,↓zA,↓reduceIte,↓reduceDIte];(try simp only [zB]);rfl)):CallI P AQ f args d m:=
 q0i hs hp hargs hnd ha hb hbh (q0r hm 600 _ (Eq.mpr e h))
def effP{args0:List SV}{H0 H1:List SObj}{q:Prop}(hs:List Nat)(hp:PE P f args0 H0 (.pan s) H1)(h:q)(hargs:args=SV.renL (sig hs m.heap.length) args0:=by rfl)(hnd:hs.Nodup:=by decide)
 (ha:atH (sig hs m.heap.length) m.heap hs H0:=by (repeat first|exact trivial|exact rfl|refine And.intro ?_ ?_))(hb:SV.belL H0.length args0=true:=by rfl)(hbh:belH H0.length H0=true:=by rfl)
 (e:AQ (.pan (s.ren (sig hs m.heap.length))) m.tmps (mgA (sig hs m.heap.length) hs H1 m.heap)=q:=by (simp only [Out.ren,SV.ren,mgA,sig,SObj.ren,SV.renL,List.set,List.map,Ah];simp (maxSteps:=3000000) only [go_sem,↓zA,↓reduceIte,↓reduceDIte];(try simp only [zB]);rfl)):CallI P AQ f args d m:=
 q0i hs hp hargs hnd ha hb hbh (Eq.mpr e h)
end
end Go.Sx