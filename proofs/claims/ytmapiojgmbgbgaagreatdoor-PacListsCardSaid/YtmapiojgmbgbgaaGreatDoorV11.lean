/- A part of the proof: a symbolic executor over abstract values, and its soundness. -/
import Derived.Test.YtmapiojgmbgbgaaGreatDoorV10
import Derived.Below
import GoSem.ClaimJoined
import Derived.ChangeArms
import Derived.Carry
import Derived.ChangeSame
import Derived.RowKit
import Derived.RowKit3
set_option linter.all false
namespace Go.Sx
open Go
/- Short forms of operations. -/
def ci(n:Int):Operand:=.const (.int .i64 n)
def o0(i:IOp):OpI:=⟨none,i,none⟩
def o1(d:Nat)(i:IOp):OpI:=⟨some d,i,none⟩
def oT(d:Nat)(i:IOp)(g:Nat):OpI:=⟨some d,i,some (g,true)⟩
def oF(d:Nat)(i:IOp)(g:Nat):OpI:=⟨some d,i,some (g,false)⟩
def mv(d x:Nat):OpI:=⟨some d,.mov (.tmp x),none⟩
def ex(d i x:Nat):OpI:=⟨some d,.ext i (.tmp x),none⟩
attribute [go_sem] ci o0 o1 oT oF mv ex strictP
theorem zA:(∀A B:Prop,bothG true true A B=A)∧(∀A B:Prop,bothG true false A B=B)∧(∀A B:Prop,bothG false true A B=B)∧(∀A B:Prop,bothG false false A B=A):=⟨z7W,z9D,z8T,z8l⟩
theorem zB:(∀ (v:Bool) (A B:Prop),bothG true v A B=((v=true→A)∧(v=false→B)))∧(∀ (v:Bool) (A B:Prop),bothG false v A B=((v=false→A)∧(v=true→B)))∧(∀ (p:Prop) [Decidable p],(decide p=true)=p)∧(∀ (p:Prop) [Decidable p],(decide p=false)= ¬p)∧
 (∀b:Bool,((!b)=true)=(b=false))∧(∀b:Bool,((!b)=false)=(b=true))∧(∀m n:Nat,((m:Int) < (n:Int))=(m<n))∧(∀m n:Nat,((m:Int)≤(n:Int))=(m≤n)):=
 ⟨j1z,j2I,fun p _=>decide_eq_true_eq,fun p _=>propext decide_eq_false_iff_not,fun b=>Bool.not_eq_true' b,fun b=>Bool.not_eq_false' b,fun m n=>propext Int.ofNat_lt,fun m n=>propext Int.ofNat_le⟩
attribute [go_sem] q1o q1w gkI mapOf mres mget mput SV.norm SV.ofS unrawL findI keyEq keyIs SV.toV SV.toVL SV.ofV SV.wk fullS run exec execR execF IOp.ev evLd evSt evBin evEq evNil SV.emp eqRs eqR eqOk eqV binV unV evT putT SV.flat SV.one SV.nonNil ones rawL Sx.pick splice fillS PlaceK.fn SV.add resRow addA addB slA slB ldRow stRow viewOf ownPart putPart dstAt putAll Ty.plain Ty.get get1 Ty.arrAt Ty.cellAt SV.ofT SV.datum SV.dflat Ty.putV put1 Ty.modR Ty.modS  SV.len lenOk slOk sliceTo lenOfS bndV loOf hiOf exitI gOf floatOk isCallI isBslI retF resV resVL resV1 PK rdL Ty.rd rdU8 rdInt rdBool rdStr rdSlice rdUnit Ty.size Ty.cells Value.cells Value.oneCell' srcS srcOf dstOf List.getD_cons_zero List.getD_cons_succ List.set_cons_zero List.set_cons_succ List.cons_append List.nil_append List.append_nil List.replicate List.length_cons List.length_nil List.map_cons List.map_nil List.getElem?_cons_zero List.getElem?_cons_succ List.take_succ_cons List.take_zero List.drop_succ_cons List.drop_zero List.take_nil List.drop_nil true_and and_true false_and and_false eq_self Bool.not_true Bool.not_false false_implies implies_true forall_const Option.some.injEq exists_eq_left' exists_eq_left Out.ret.injEq SV.raw.injEq Value.bool.injEq Bool.or_true Bool.true_or Bool.or_false Bool.false_or beq_self_eq_true and_self Bool.and_true Bool.true_and Bool.and_self Bool.and_false Bool.false_and Option.map_some Option.map_none decide_true decide_false Bool.false_eq_true cast_eq List.contains_cons List.contains_nil List.any_nil List.any_cons
/- A goal and what it simplifies to. -/
attribute [go_sem_proc] reduceCtorEq Nat.reduceAdd Nat.reduceSub Nat.reduceLeDiff Nat.reduceLT Nat.reduceEqDiff Nat.reduceBEq Nat.reduceMul Int.reduceToNat Int.reduceEq Int.reduceLT Int.reduceLE
theorem sxE{p q:Prop}(h:q)(e:p=q:=by (simp (maxSteps:=3000000) only [go_sem,↓zA,↓reduceIte,↓reduceDIte];(try simp only [zB]);rfl)):p:=Eq.mpr e h
theorem goE[Ghost]{P:Program}{AQ:Ex→List SV→List SObj→Prop}{m:IM}{q:Prop}(hm:P.follows .mixedOrders=true)(h:q)(e:run P AQ 600 m=q:=by (simp (maxSteps:=3000000) only [go_sem,↓zA,↓reduceIte,↓reduceDIte];(try simp only [zB]);rfl)):SoundI P AQ m:=q0r hm 600 m (Eq.mpr e h)
theorem runE{P:Program}{f:FuncId}{fi:FI}{args:List SV}{K:Out→List SObj→Prop}{H:List SObj}{q:Prop}(hm:P.follows .mixedOrders=true)(hf:finfo P f=some fi)(h:q)
 (e:run P (retF P fi.results K) 600 ⟨H.length,[.ic fi.code],args++List.replicate (fi.ntmps-args.length) .any,H⟩=q:=by (simp (maxSteps:=3000000) only [go_sem,↓zA,↓reduceIte,↓reduceDIte];(try simp only [zB]);rfl)):VC P f args H K:=q4s hf (q0r hm 600 _ (Eq.mpr e h))
theorem sx1{a p q:Prop}(w:a)(h:q)(e:a→p=q:=by (intro w;simp (maxSteps:=3000000) only [w,go_sem,↓zA,↓reduceIte,↓reduceDIte];(try simp only [zB]);rfl)):p:=Eq.mpr (e w) h
theorem sx3{a b p q:Prop}(w:a)(w2:b)(h:q)(e:a→b→p=q:=by (intro w w2;simp (maxSteps:=3000000) only [w,w2,Af,go_sem,↓zA,↓reduceIte,↓reduceDIte];(try simp only [zB]);rfl)):p:=Eq.mpr (e w w2) h
end Go.Sx
namespace Go.Sx
open Go

variable [Ghost] {P:Program} {AQ:Ex→List SV→List SObj→Prop} {k0:Nat} {k:List IT} {t:List SV} {H:List SObj}

def leM1(s:SV):SV→Prop
 |.any=>True
 |s'=>s=s'
def leM:List SV→List SV→Prop
 | [],[]=>True
 |s :: l,s' :: l'=>leM1 s s'∧leM l l'
 |_,_=>False
theorem j1S{s s':SV}(h:leM1 s s'):SV.le s s':=by
 cases s'<;>first|exact SV.le_any _| (simp only [leM1] at h;subst h;exact SV.le_refl _)
theorem q3b:∀ {l l':List SV},leM l l'→leL l l'
 | [],[],_=>trivial
 |_ :: _,_ :: _,h=>⟨j1S h.1,q3b h.2⟩
 | [],_ :: _,h=>h.elim
 |_ :: _,[],h=>h.elim
theorem q6k:∀ (l:List SV),leM l l
 | []=>trivial
 |s :: l=>⟨by cases s<;>simp [leM1],q6k l⟩

def setMany(t:List SV):List (Nat×SV)→List SV
 | []=>t
 | (i,s) :: l=>setMany (t.set i s) l

def RoundX{ι:Type}(Hf:ι→List SObj)(S:ι→List SV)(μ:ι→Nat)(p:ι→Prop)(i:ι):List SV→List SObj→Prop:=
 fun t' H'=>∃j,p j∧μ j<μ i∧H'=Hf j∧leM t' (S j)

theorem z1P{P:Program}{k:List It}{ι:Type}(c:Code)(S:ι→List SV)(Hf:ι→List SObj)(μ:ι→Nat)(p:ι→Prop)(i₀:ι)(h₀:p i₀)(hH:H=Hf i₀)(hs:leM t (S i₀))
 (round:∀i,p i→Sound P AQ ⟨k0,.code c :: .stop (RoundX Hf S μ p i) :: k,S i,Hf i⟩):Sound P AQ ⟨k0,.code (.loop c) :: k,t,H⟩:=fun E r n C a h0 hd=>by
 subst hH;simp only [wpT];refine q1a (fun m a w=>∃i,p i∧μ i=m∧∃C,C.w=w∧Den E C (S i) (Hf i) a) (μ i₀) ⟨i₀,h₀,rfl,C,rfl,hd.wd,hd.ext,hd.defs,q2K (q3b hs) hd.tmps⟩ ?_;rintro m a w ⟨i,hp,rfl,C,rfl,hd⟩;have h1:=round i hp E r n C a h0 hd;simp only [wpT] at h1;refine wpIn_mono h1 fun e a w hq=> ?_;cases e with
 |normal=>
  obtain ⟨C',t',H',⟨j,hj,hlt,rfl,hS⟩,rfl,hd'⟩:=hq;exact ⟨μ j,hlt,j,hj,rfl,C',rfl,hd'.wd,hd'.ext,hd'.defs,q2K (q3b hS) hd'.tmps⟩
 |exit id=>simpa only [Exit.then,exitT] using hq
 |_=>exact hq

theorem q0y{ι:Type}{c:IC}(upd:ι→List (Nat×SV))(Hf:ι→List SObj)(μ:ι→Nat)(p:ι→Prop)(i₀:ι)(h₀:p i₀)(hH:H=Hf i₀)(hs:leM t (setMany (maskT c.wr t) (upd i₀)))
 (round:∀i,p i→SoundI P AQ ⟨k0,.ic c :: .stop (RoundX Hf (fun i=>setMany (maskT c.wr t) (upd i)) μ p i) :: k,setMany (maskT c.wr t) (upd i),Hf i⟩):SoundI P AQ ⟨k0,.ic (.loop c) :: k,t,H⟩:=q0d (fun td' hr=>by
 obtain ⟨c',r,rfl,hc,hr⟩:=hr;obtain ⟨x,rfl,hx⟩:=q0N hc
 exact z1P x _ Hf μ p i₀ h₀ hH hs (fun i hi=>q0e (round i hi) ⟨x,_,rfl,hx,r,rfl,hr⟩)) rfl

theorem q5Y{c:IC}(slot n:Nat)(q:Nat→Prop)(hs:leM t (setMany (maskT c.wr t) [(slot,.raw (.int .i64 ((0:Nat):Int)))]))
 (round:∀i,i≤n→(∀j,j<i→q j)→SoundI P AQ ⟨k0,.ic c :: .stop (RoundX (fun _=>H) (fun i=>setMany (maskT c.wr t) [(slot,.raw (.int .i64 ((i:Nat):Int)))]) (fun i=>n-i) (fun i=>i≤n∧∀j,j<i→q j) i) :: k,setMany (maskT c.wr t) [(slot,.raw (.int .i64 ((i:Nat):Int)))],H⟩):
 SoundI P AQ ⟨k0,.ic (.loop c) :: k,t,H⟩:=
 q0y (fun i:Nat=>[(slot,.raw (.int .i64 (i:Int)))]) (fun _=>H) (fun i=>n-i) (fun i=>i≤n∧∀j,j<i→q j) 0 ⟨Al _,fun _ h=>absurd h (BG _)⟩ rfl hs fun i hi=>round i hi.1 hi.2
theorem q3W{S:Nat→List SV}{n i:Nat}{q:Nat→Prop}(hlt:i<n)(hall:∀j,j<i→q j)(hq:q i)(h:leM t (S (i+1))):RoundX (fun _=>H) S (fun i=>n-i) (fun i=>i≤n∧∀j,j<i→q j) i t H:=
 ⟨i+1,⟨hlt,fun j hj=>by
  by_cases e:j=i
  · subst e;exact hq
  exact hall j (by omega)⟩,by dsimp only;omega,rfl,h⟩
theorem q1L{i:Nat}(h:i<4611686018427387904):IntKind.i64.wrap ((i:Int)+1)=((i+1:Nat):Int):=by
 rw [IntWalk.i64_in _ (by omega)];rfl

mutual
theorem z6I{C:Cx}:∀ {s:SV} {v:Value},s.den C v→s.bel C.n=true
 |.any,_,_=>rfl
 |.raw _,_,_=>rfl
 |.isl _ _,_,_=>rfl
 |.fsl _ _,_,_=>rfl
 |.iptr _ _ _,_,_=>rfl
 |.dat _ _,_,_=>rfl
 |.ptr h off,_,d=>by rw [SV.den] at d;simpa [SV.bel] using d.1
 |.rptr h t i k,_,d=>by rw [SV.den] at d;simpa [SV.bel] using d.1
 |.bld h t m,_,d=>by rw [SV.den] at d;simpa [SV.bel] using d.1
 |.osl h t off m,_,d=>by rw [SV.den] at d;simpa [SV.bel] using d.1
 |.csl h t k i m,_,d=>by rw [SV.den] at d;simpa [SV.bel] using d.1
 |.mp h,_,d=>by rw [SV.den] at d;simpa [SV.bel] using d.1
 |.imap ..,_,_=>rfl
 |.agg l,_,d=>by rw [SV.den] at d;obtain ⟨vs,_,hl⟩:=d;rw [SV.bel];exact q1A hl
 |.tup l,_,d=>by rw [SV.den] at d;obtain ⟨vs,_,hl⟩:=d;rw [SV.bel];exact q1A hl
 |.fn f a b,_,d=>by rw [SV.den] at d;obtain ⟨v1,v2,_,h1,h2⟩:=d;rw [SV.bel,q1A h1,q1A h2];rfl
 |.iface T x,_,d=>by rw [SV.den] at d;obtain ⟨u,_,h1⟩:=d;rw [SV.bel];exact z6I h1
theorem q1A{C:Cx}:∀ {l:List SV} {vs:List Value},SV.denL C l vs→SV.belL C.n l=true
 | [],_,_=>rfl
 |s :: l,_,d=>by rw [SV.denL] at d;obtain ⟨v,us,_,h1,h2⟩:=d;rw [SV.belL,z6I h1,q1A h2];rfl
end
theorem q5r{C:Cx}{h:Nat}{o:SObj}(d:objDen C h o):o.bel C.n=true:=by
 cases o with
 |cells T cs=>obtain ⟨b,vs,_,_,hl⟩:=d;exact q1A hl
 |map kk ks vs=>obtain ⟨b,us,_,_,hl⟩:=d;exact q1A hl
 |_=>rfl

mutual
theorem z2C:∀ (s:SV),s.ren (fun h=>h)=s
 |.any=>rfl
 |.raw _=>rfl
 |.isl _ _=>rfl
 |.fsl _ _=>rfl
 |.iptr _ _ _=>rfl
 |.dat _ _=>rfl
 |.ptr .. =>rfl
 |.rptr .. =>rfl
 |.bld .. =>rfl
 |.osl .. =>rfl
 |.csl .. =>rfl
 |.mp _=>rfl
 |.imap .. =>rfl
 |.agg l=>by rw [SV.ren,q5g]
 |.tup l=>by rw [SV.ren,q5g]
 |.fn f a b=>by rw [SV.ren,q5g,q5g]
 |.iface T x=>by rw [SV.ren,z2C]
theorem q5g:∀ (l:List SV),SV.renL (fun h=>h) l=l
 | []=>rfl
 |s :: l=>by rw [SV.renL,z2C,q5g]
end
theorem q3F(o:SObj):o.ren (fun h=>h)=o:=by cases o<;>simp [SObj.ren,q5g]

theorem VCall.drop{f:FuncId}{args:List SV}{s:SV}(hs:s.clean=true)(h:VCall P f args H fun o H'=>o= .ret s∧∃G,H'=H++G)(K:Out→List SObj→Prop)(hk:K (.ret s) H):VCall P f args H K:=by
 intro C vs hw ht hv;refine (h C vs hw ht hv).mono ?_;rintro e w' ⟨o,H',C',⟨rfl,G,rfl⟩,rfl,hw',hx,v,rfl,hd⟩
 let D:Cx:={C' with n:=H.length}
 have hget:∀ {h' o},H[h']?=some o→(H++G)[h']?=some o:=fun hh=>by rw [Ag (Aa.1 hh).1];exact hh
 have hown:∀b,OwnB D H b→OwnB C' (H++G) b:=fun b ⟨h',o,ho,hl,hb⟩=>⟨h',o,hget ho,hl,hb⟩;have hev:Evo C D:=⟨by rw [hw.n];exact Ae _,hx.evo.ρ,hx.evo.I,hx.evo.sz⟩
 refine ⟨.ret s,H,D,hk,rfl,⟨rfl,fun h' o ho=> ?_,fun b hb=>hw'.own b (hown b hb),fun h1 h2 o o' b g1 g2=>hw'.inj h1 h2 o o' b (hget g1) (hget g2),hw'.imm⟩,⟨hev,hx.size,hx.os,hx.tape,hx.output,hx.frame,hx.immNew,fun b hb=>hx.ownNew b (hown b hb),fun _ _ h=>h⟩,v,rfl,q0D (C:=C') (C':=D) (Keeps.refl _ _) hs hd⟩;have hb:=q5r (hw.obj h' o ho);rw [hw.n] at hb;have:=objRen (σ:=fun h=>h) (n:=H.length) hb (by rw [q3F];exact hw'.obj h' o (hget ho))
 exact this

def PCH(P:Program)(f:FuncId)(args:List SV)(s:SV)(H:List SObj):Prop:=enters P f=true∧∀K:Out→List SObj→Prop,K (.ret s) H→VCall P f args H K
theorem PC.at{f:FuncId}{args:List SV}{s:SV}(h:PC P f args s)(H:List SObj):PCH P f args s H:=⟨h.1,h.2 H⟩
def Frz(hd:Nat)(K:Out→List SObj→Prop):Out→List SObj→Prop
 |.ret s,H'=>match H'[hd]? with
  |some (.row t xs)=>xs.length≤1125899906842624∧frzObH hd t xs H'∧s.frzOb hd t xs∧K (.ret (s.frz hd t xs)) (frzH hd t xs H')
  |_=>False
 |.pan s,H'=>K (.pan s) H'
theorem VCall.frz{f:FuncId}{args:List SV}{K:Out→List SObj→Prop}(hd:Nat)(h:VCall P f args H (Frz hd K)):VCall P f args H K:=by
 intro C vs hw ht hv;refine (h C vs hw ht hv).mono ?_;rintro e w' ⟨o,H',C',hk,rfl,hw',hx,hd'⟩;cases o with
 |pan s=>exact ⟨.pan s,H',C',hk,rfl,hw',hx,hd'⟩
 |ret s=>
  simp only [Frz] at hk;split at hk
  · rename_i t xs hH;obtain ⟨k1,k2,k3,k4⟩:=hk;obtain ⟨g1,g2⟩:=z7k hw' hx hH k1 k2;obtain ⟨v,rfl,hd'⟩:=hd';exact ⟨.ret (s.frz hd t xs),frzH hd t xs H',C'.frz hd,k4,rfl,g1,g2,v,rfl,q3E hw' hH k1 k3 hd'⟩
  exact hk.elim
def FrzM(K:Out→List SObj→Prop)(H:List SObj):Out→List SObj→Prop
 |.ret (.mp h),H'=>∃kk ks vs G,h=H.length∧H'=H++ .map kk ks (rawL vs) :: G∧K (.ret (.imap kk ks vs)) H
 |_,_=>False
theorem VCall.frzM{f:FuncId}{args:List SV}{K:Out→List SObj→Prop}(h:VCall P f args H (FrzM K H)):VCall P f args H K:=by
 intro C vs hw ht hv;refine (h C vs hw ht hv).mono ?_;rintro e w' ⟨o,H',C',hk,rfl,hw',hx,hd'⟩;unfold FrzM at hk;split at hk
 · obtain ⟨kk,ks,ms,G,rfl,rfl,hk⟩:=hk;obtain ⟨v,rfl,hd'⟩:=hd';rw [SV.den] at hd';obtain ⟨_,b,hb,rfl⟩:=hd';have hget':(H++ .map kk ks (rawL ms) :: G)[H.length]?=some (.map kk ks (rawL ms)):=by simp
   obtain ⟨b',us,hb',hm,hu⟩:=hw'.obj H.length _ hget';rw [hb] at hb';cases hb';rw [q1t hu] at hm;have hob:OwnB C' (H++ .map kk ks (rawL ms) :: G) b:=⟨H.length,_,hget',rfl,hb⟩
   let D:Cx:={C' with n:=H.length,I:=fun x=>C'.I x∨x=b}
   have hget:∀ {h' o},H[h']?=some o→(H++ .map kk ks (rawL ms) :: G)[h']?=some o:=fun hh=>by rw [Ag (Aa.1 hh).1];exact hh
   have hown:∀x,OwnB D H x→OwnB C' (H++ .map kk ks (rawL ms) :: G) x∧x≠b:=fun x ⟨h',o,ho,hl,hx⟩=>⟨⟨h',o,hget ho,hl,hx⟩,fun e=>by
    subst e;have:=hw'.inj h' H.length _ _ x (hget ho) hget' hl rfl hx hb;have hlt:=(Aa.1 ho).1
    omega⟩
   have hev:Evo C D:=⟨by rw [hw.n];exact Ae _,hx.evo.ρ,fun x hxI=>⟨.inl (hx.evo.I x hxI).1,(hx.evo.I x hxI).2⟩,hx.evo.sz⟩
   have hkeep:Keeps C'.I D.I C'.w D.w:=fun x hxI=>⟨.inl hxI,rfl⟩;refine ⟨.ret (.imap kk ks ms),H,D,hk,rfl,⟨rfl,fun h' o ho=> ?_,fun x hxo=> ?_,fun h1 h2 o o' x g1 g2=>hw'.inj h1 h2 o o' x (hget g1) (hget g2),?_⟩,⟨hev,hx.size,hx.os,hx.tape,hx.output,hx.frame,?_,fun x hxo=>hx.ownNew x (hown x hxo).1,fun _ _ h=>h⟩,.map (some b),rfl,by rw [SV.den];exact ⟨b,rfl,.inr rfl,hm⟩⟩
   · have hbel:=q5r (hw.obj h' o ho);rw [hw.n] at hbel;have h1:objDen (C'.ren (fun h=>h) H.length) h' o:=objRen (σ:=fun h=>h) (n:=H.length) hbel (by rw [q3F];exact hw'.obj h' o (hget ho))
     have he:Evo (C'.ren (fun h=>h) H.length) D:=⟨Ae _,fun _ _=>rfl,hkeep,fun _ _ h=>h⟩;exact q0C he.I h' rfl (fun _ _=>rfl) (q0f he) h1
   · obtain ⟨h1,h2⟩:=hown x hxo;have:=hw'.own x h1;exact ⟨fun hi=>hi.elim this.1 h2,this.2⟩
   · rintro x (hx'|rfl)
     · exact hw'.imm x hx'
     exact (hw'.own _ hob).2
   rintro x (hx'|rfl)
   · exact hx.immNew x hx'
   exact .inr ⟨hx.ownNew _ hob,(q4v hw' hob:Unf C'.w _)⟩
 exact hk.elim
theorem j1N{f:FuncId}{args:List SV}{K:Out→List SObj→Prop}(h:VC P f args H (FrzM K H)):VC P f args H K:=⟨h.1,VCall.frzM h.2⟩

theorem z9V{f:FuncId}{vs:List Value}{v:Value}(he:enters P f=true)(h:∀w,Calls P f vs.toArray w fun e w'=>e= .returned v∧Go.RowKit.Below w.heap.size w w'):PC P f (rawL vs) (.raw v):=by
 refine ⟨he,fun H K hk C us hw ht hv=> ?_⟩;rw [q1t hv];refine (h C.w).mono ?_;rintro e w' ⟨rfl,hg⟩;obtain ⟨g1,g2⟩:=z6f hw hg.size hg.block hg.os hg.tape hg.output;exact ⟨_,H,_,hk,rfl,g1,g2,v,rfl,by rw [SV.den]⟩

theorem z0D{P:Program}{k:List It}{tm:List SV}(i:Nat)(ty:Ty)(hi:tm[i]?=some (.raw (.slice none 0 0)))(hs:Sound P AQ ⟨k0,k,tm.set i (.bld H.length ty 0),H++ [.row ty []]⟩):Sound P AQ ⟨k0,k,tm,H⟩:=by
 intro E r n C a h0 hd;obtain ⟨C',hw,g1,g2,g3⟩:=q8E (t:=ty) hd.wd;have:=hs E r n C' a h0 ⟨g1,hd.ext.trans g2,DefOk.next g2 hd.defs,?_⟩
 · rw [←hw];exact this
 have h1:=q0f g2.evo hd.tmps;obtain ⟨v,hv,hd'⟩:=q1B h1 hi;rw [SV.den] at hd';subst hd';have:=q2p (i:=i) h1 g3;have he:a.tmps.toList.set i (.slice none 0 0)=a.tmps.toList:=by
  apply Bc;intro j;by_cases e:j=i
  · subst e;rw [Ar (Aa.1 hv).1,hv]
  rw [Aq (Ne.symm e)]
 rwa [he] at this
theorem z6R(i:Nat)(ty:Ty){td:List IT}(hp:plainT td=true)(hi:t[i]?=some (.raw (.slice none 0 0)))(h:SoundI P AQ ⟨k0,td,t.set i (.bld H.length ty 0),H++ [.row ty []]⟩):SoundI P AQ ⟨k0,td,t,H⟩:=
 q0d (fun _ hr=>z0D i ty hi (q0e h hr)) hp

theorem z1q{C:Cx}{h:Nat}{t:Ty}{xs:List t.den}(hw:Wd C H)(hH:H[h]?=some (.row t xs)):Wd (C.frz h) (H.set h .dead)∧Ext ⟨C,H⟩ (C.frz h) (H.set h .dead):=by
 have hob:∀b,C.ρ h=some b→OwnB C H b:=fun b hb=>⟨h,_,hH,rfl,hb⟩;have hget:∀ {i y},(H.set h .dead)[i]?=some y→y.live=true→i≠h∧H[i]?=some y:=fun {i y} hy hl=>by
  by_cases e:i=h
  · subst e;rcases AC i H.length with h1|h1
    · rw [Ar h1] at hy;cases hy;simp [SObj.live] at hl
    rw [AJ (by simpa using h1)] at hy;cases hy
  rw [Aq (Ne.symm e)] at hy;exact ⟨e,hy⟩
 have hown:∀b,OwnB (C.frz h) (H.set h .dead) b→OwnB C H b∧C.ρ h≠some b:=by
  rintro b ⟨i,y,hy,hl,hb⟩;obtain ⟨hne,hy'⟩:=hget hy hl;exact ⟨⟨i,y,hy',hl,hb⟩,fun e=>hne (hw.inj i h y _ b hy' hH hl rfl hb e)⟩
 refine ⟨⟨by simp [Cx.frz,hw.n],fun i y hy=> ?_,fun b hb=> ?_,fun i j y y' b hy hy' hl hl' hb hb'=> ?_,?_⟩,⟨q0X C h,Ae _,rfl,rfl,rfl,fun _ _ _=>rfl,?_,fun b hb=>.inr (hown b hb).1,fun _ _ hn=>q3P hH rfl hn⟩⟩
 · by_cases hl:y.live=true
   · exact q0C (q0X C h).I i rfl (fun _ _=>rfl) (q0f (q0X C h)) (hw.obj i y (hget hy hl).2)
   cases y<;>first|trivial|simp [SObj.live] at hl
 · obtain ⟨h1,h2⟩:=hown b hb;have:=hw.own b h1;exact ⟨fun hi=>hi.elim this.1 h2,this.2⟩
 · exact hw.inj i j y y' b (hget hy hl).2 (hget hy' hl').2 hl hl' hb hb'
 · rintro b (hb|hb)
   · exact hw.imm b hb
   exact (hw.own b (hob b hb)).2
 rintro b (hb|hb)
 · exact .inl hb
 exact .inr ⟨.inr (hob b hb),(q4v hw (hob b hb):Unf C.w b)⟩
theorem VCall.hand{f:FuncId}{args:List SV}{K:Out→List SObj→Prop}(h:Nat){t:Ty}{xs:List t.den}(hH:H[h]?=some (.row t xs))(hlen:xs.length≤1125899906842624)(ho:SV.frzObL h t xs args)
 (hc:VCall P f (SV.frzL h t xs args) (H.set h .dead) K):VCall P f args H K:=by
 intro C vs hw ht hv;obtain ⟨g1,g2⟩:=z1q hw hH;refine (hc (C.frz h) vs g1 (ht.next g2) (q2r hw hH hlen ho hv)).mono ?_
 rintro e w' ⟨o,H',C',hk,rfl,hw',hx,hd'⟩;exact ⟨o,H',C',hk,rfl,hw',g2.trans hx,hd'⟩
theorem VCallG.hand{f:FuncId}{args:List SV}{K:Out→List SObj→Prop}(h:Nat){t:Ty}{xs:List t.den}(hH:H[h]?=some (.row t xs))(hlen:xs.length≤1125899906842624)(ho:SV.frzObL h t xs args)
 (hc:VCallG P f (SV.frzL h t xs args) (H.set h .dead) K):VCallG P f args H K:=by
 intro E C vs hw hg hv;obtain ⟨g1,g2⟩:=z1q hw hH;refine (hc E (C.frz h) vs g1 (Ghost.next g2 hg) (q2r hw hH hlen ho hv)).mono ?_
 rintro e w' ⟨o,H',C',hk,rfl,hw',hx,hd'⟩;exact ⟨o,H',C',hk,rfl,hw',(Stp.of g2).trans hx,hd'⟩
def handC(h:Nat)(args:List SV)(H:List SObj)(k:List SV→List SObj→Prop):Prop:=match H[h]? with
 |some (.row t xs)=>xs.length≤1125899906842624∧SV.frzObL h t xs args∧k (SV.frzL h t xs args) (H.set h .dead)
 |_=>False
theorem q0A{f:FuncId}{args:List SV}{d:Option Tmp}{m:IM}(h:Nat)(hc:handC h args m.heap fun args' H'=>CallI P AQ f args' d {m with heap:=H'}):CallI P AQ f args d m:=by
 unfold handC at hc;split at hc
 · rename_i t xs hH;exact ⟨hc.2.2.1,VCallG.hand h hH hc.1 hc.2.1 hc.2.2.2⟩
 exact hc.elim
theorem q0L{G:List Nat}{f:FuncId}{args:List SV}{d:Option Tmp}{m:IM}(h:Nat)(hG:G.contains h=false)(hc:handC h args m.heap fun args' H'=>CallR P AQ G f args' d {m with heap:=H'}):CallR P AQ G f args d m:=by
 unfold handC at hc;split at hc
 · rename_i t xs hH;refine ⟨hc.2.2.1,VCallG.hand h hH hc.1 hc.2.1 (hc.2.2.2.mono fun o H' ho=> ?_)⟩;have hs:SameG G m.heap (m.heap.set h .dead):=fun i hi=>by
    rw [Aq];rintro rfl;have:G.contains h=true:=by simpa using hi
    rw [this] at hG;cases hG
   cases o with
   |ret s=>exact ⟨fun hg=>hs.trans (ho.1 hg),ho.2⟩
   |pan s=>exact ho
 exact hc.elim

theorem q4w:∀ (l:List Value),SV.cleanL (rawL l)=true
 | []=>rfl
 |_ :: l=>by rw [rawL,AT,SV.cleanL,SV.clean,AE];exact q4w l

theorem getA{α:Type}(G R:List α)(k:Nat):(G++R)[G.length+k]?=R[k]?:=by rw [Ao (by omega)];congr 1;omega
theorem getA0{α:Type}(G R:List α):(G++R)[G.length]?=R[0]?:=getA G R 0
theorem setA{α:Type}(G R:List α)(k:Nat)(x:α):(G++R).set (G.length+k) x=G++R.set k x:=by rw [BZ _ _ (by omega)];congr 2;omega
theorem setA0{α:Type}(G R:List α)(x:α):(G++R).set G.length x=G++R.set 0 x:=setA G R 0 x
theorem j1T{α:Type}(l:List α)(a:α):(l++ [a])[l.length]?=some a:=by simp
theorem j1D{α:Type}(l:List α)(a b:α):(l++ [a]).set l.length b=l++ [b]:=by simp
theorem z1O{α:Type}(l:List α)(a:α):(l++ [a]).length=l.length+1:=by simp
theorem wrapi{n:Int}(h: -9223372036854775808≤n∧n≤9223372036854775807):IntKind.i64.wrap n=n:=IntWalk.i64_in n h
theorem q0O{α:Type}{l:List α}{i:Nat}{d:α}(h:i<l.length):l.getD i d∈l:=by
 rw [Ad,Ab h];exact B7 h
theorem q0Y{α:Type}{l:List α}{i:Nat}{d:α}(h:i<l.length):l.take (i+1)=l.take i++ [l.getD i d]:=by
 rw [List.take_add_one,Ad,Ab h];rfl
theorem cast0:((0:Nat):Int)=0:=rfl
attribute [go_sem] handC FrzM Frz frzObH SObj.frzOb SV.frzOb SV.frzObL SV.frz SV.frzL frzH SObj.frz List.map_append Int.toNat_natCast cast0 j1T j1D z1O setMany maskT leM leM1 IC.wr OpI.wr List.flatMap_cons List.flatMap_nil Option.toList_some Option.toList_none List.foldl_cons List.foldl_nil
theorem sxaE{p q:Prop}(h:q)(e:p=q:=by (simp (maxSteps:=3000000) only [List.append_assoc,getA,getA0,setA,setA0,Af,Nat.add_assoc,go_sem,↓zA,↓reduceIte,↓reduceDIte];(try simp only [zB]);rfl)):p:=Eq.mpr e h
theorem goaE{P:Program}{AQ:Ex→List SV→List SObj→Prop}{m:IM}{q:Prop}(hm:P.follows .mixedOrders=true)(h:q)(e:run P AQ 600 m=q:=by (simp (maxSteps:=3000000) only [List.append_assoc,getA,getA0,setA,setA0,Af,Nat.add_assoc,go_sem,↓zA,↓reduceIte,↓reduceDIte];(try simp only [zB]);rfl)):SoundI P AQ m:=q0r hm 600 m (Eq.mpr e h)
theorem wsx(i:Nat)(h:i<4611686018427387904):IntKind.i64.wrap ((i:Int)+1)=((i+1:Nat):Int):=q1L h
end Go.Sx
namespace Go.Sx
open Go

variable [Ghost] {P:Program} {AQ:Ex→List SV→List SObj→Prop} {k0:Nat} {k:List IT} {t:List SV} {H:List SObj}

theorem q8N{n:Nat}{s:SV}(hs:s.bel n=true):∀ {l:List SV} (i:Nat),SV.belL n l=true→SV.belL n (l.set i s)=true
 | [],_,h=>h
 |x :: l,0,h=>by rw [Bj,SV.belL] at*;simp only [Aj] at*;exact ⟨hs,h.2⟩
 |x :: l,i+1,h=>by rw [Bk,SV.belL] at*;simp only [Aj] at*;exact ⟨h.1,q8N hs i h.2⟩
theorem q2O{n:Nat}:∀ (ws:List Nat) {l:List SV},SV.belL n l=true→SV.belL n (maskT ws l)=true
 | [],_,h=>h
 |d :: ws,l,h=>by
  simp only [maskT,Bl];exact q2O ws (q8N (s:=.any) rfl d h)
theorem q2N{n:Nat}:∀ (u:List (Nat×SV)) {l:List SV},(u.all fun x=>x.2.bel n)=true→SV.belL n l=true→SV.belL n (setMany l u)=true
 | [],_,_,h=>h
 | (i,s) :: u,l,hu,h=>by
  simp only [Bt,Aj] at hu;exact q2N u hu.2 (q8N hu.1 i h)
theorem q5H{n:Nat}:∀ {L:List SObj},(∀ (h:Nat) (o:SObj),L[h]?=some o→o.bel n=true)→belH n L=true
 | [],_=>rfl
 |o :: l,h=>by
  simp only [belH,Aj];exact ⟨h 0 o rfl,q5H fun i x hx=>h (i+1) x (by simpa using hx)⟩
theorem q8M:∀ {l l':List SV},leM l l'→leT (fun h=>h) l l'
 | [],[],_=>trivial
 |s :: l,s' :: l',h=>by
  refine ⟨?_,q8M h.2⟩;have:=h.1;cases s'<;>first|trivial| (simp only [leM1] at this;simp only [leS];rw [this];rw [z2C])
 | [],_ :: _,h=>h.elim
 |_ :: _,[],h=>h.elim
theorem z3D{H A B:List SObj}{x:SObj}(h0:0<H.length)(h:(H++A)[0]?=some x):(H++B)[0]?=some x:=by
 rw [Ag h0] at h⊢;exact h
theorem q8c{σ:Nat→Nat}{t':List SV}{H':List SObj}{E:EnD}{C:Cx}{a:Act}(he:E.C.n≤k0)(hd:Den E C t H a)(tm:leT σ t t')(bt:SV.belL H'.length t'=true)
 (hp:∀h o,H'[h]?=some o→o.live=true→H[σ h]?=some (o.ren σ))(bh:belH H'.length H'=true)(inj:∀h h' o o',H'[h]?=some o→H'[h']?=some o'→o.live=true→o'.live=true→σ h=σ h'→h=h')(fix:∀h,h<k0→σ h=h)(len:k0≤H'.length)(mk:∀n,0<E.C.n→H[0]?=some (.mark n)→H'[0]?=some (.mark n)):
 Den E (C.ren σ H'.length) t' H' a:=by
 have hown:∀b,OwnB (C.ren σ H'.length) H' b→OwnB C H b:=by
  rintro b ⟨i,o,ho,hl,hb⟩;exact ⟨σ i,_,hp i o ho hl,by rw [q1d];exact hl,hb⟩
 have hevo:Evo E.C (C.ren σ H'.length):=⟨An he len,fun x hx=>by simp only [Cx.ren];rw [fix x (by omega)];exact hd.ext.evo.ρ x hx,hd.ext.evo.I,hd.ext.evo.sz⟩
 refine ⟨⟨rfl,?_,fun b hb=>hd.wd.own b (hown b hb),?_,hd.wd.imm⟩,⟨hevo,hd.ext.size,hd.ext.os,hd.ext.tape,hd.ext.output,hd.ext.frame,hd.ext.immNew,fun b hb=>hd.ext.ownNew b (hown b hb),fun n h0 hn=>mk n h0 (hd.ext.keep0 n h0 hn)⟩,?_,z1B tm bt hd.tmps⟩
 · intro i o ho;by_cases hl:o.live=true
   · exact objRen (q3f bh ho) (hd.wd.obj _ _ (hp i o ho hl))
   cases o<;>first|trivial|simp [SObj.live] at hl
 · intro i j o o' b ho ho' hl hl' hb hb';exact inj i j o o' ho ho' hl hl' (hd.wd.inj (σ i) (σ j) _ _ b (hp i o ho hl) (hp j o' ho' hl') (by rw [q1d];exact hl) (by rw [q1d];exact hl') hb hb')
 exact ⟨hd.defs.1,Ghost.same hd.wd rfl (fun _ h=>h) (fun _ hb=>.inl hb) hown mk hevo.n hd.defs.2⟩

def RoundD(H:List SObj)(S:Nat→List SV)(n:Nat)(p:Nat→Prop)(i:Nat):List SV→List SObj→Prop:=
 fun t' H'=>i<n∧p (i+1)∧(∃G,H'=H++G)∧leM t' (S (i+1))
theorem z2d{P:Program}{k:List It}(c:Code)(S:Nat→List SV)(n:Nat)(p:Nat→Prop)(h₀:p 0)(hs:leM t (S 0))(hk:k0≤H.length)(hb:SV.belL H.length t=true→∀i,SV.belL H.length (S i)=true)
 (round:∀i,i≤n→p i→Sound P AQ ⟨k0,.code c :: .stop (RoundD H S n p i) :: k,S i,H⟩):Sound P AQ ⟨k0,.code (.loop c) :: k,t,H⟩:=fun E r m C a h0 hd=>by
 have hbt:∀i,SV.belL H.length (S i)=true:=hb (by have:=q1A hd.tmps;rwa [hd.wd.n] at this)
 have hbh:belH H.length H=true:=q5H fun h o ho=>by have:=q5r (hd.wd.obj h o ho);rwa [hd.wd.n] at this
 simp only [wpT];refine q1a (fun m a w=>∃i,i≤n∧p i∧n-i=m∧∃C,C.w=w∧Den E C (S i) H a) n ⟨0,Al _,h₀,rfl,C,rfl,hd.wd,hd.ext,hd.defs,q2K (q3b hs) hd.tmps⟩ ?_;rintro m' a w ⟨i,hi,hp,rfl,C,rfl,hd⟩;have h1:=round i hi hp E r m C a h0 hd;simp only [wpT] at h1;refine wpIn_mono h1 fun e a w hq=> ?_;cases e with
 |normal=>
  obtain ⟨C',t',H',⟨hlt,hp',⟨G,rfl⟩,hS⟩,rfl,hd'⟩:=hq;refine ⟨n- (i+1),by omega,i+1,hlt,hp',rfl,C'.ren (fun h=>h) H.length,rfl,?_⟩
  exact q8c h0.1 hd' (q8M hS) (hbt _) (fun h o ho _=>by rw [q3F,Ag (Aa.1 ho).1];exact ho) hbh (fun _ _ _ _ _ _ _ _ e=>e) (fun _ _=>rfl) hk (fun _ hp hn=>by rw [Ag (Am hp (An h0.1 hk))] at hn;exact hn)
 |exit id=>simpa only [Exit.then,exitT] using hq
 |_=>exact hq
theorem q0Q{c:IC}(upd:Nat→List (Nat×SV))(n:Nat)(q:Nat→Prop)(hk:k0≤H.length)(hu:∀i,((upd i).all fun x=>x.2.bel H.length)=true)(hs:leM t (setMany (maskT c.wr t) (upd 0)))
 (round:∀i,i≤n→(∀j,j<i→q j)→SoundI P AQ ⟨k0,.ic c :: .stop (RoundD H (fun i=>setMany (maskT c.wr t) (upd i)) n (fun i=>∀j,j<i→q j) i) :: k,setMany (maskT c.wr t) (upd i),H⟩):
 SoundI P AQ ⟨k0,.ic (.loop c) :: k,t,H⟩:=q0d (fun td' hr=>by
 obtain ⟨c',r,rfl,hc,hr⟩:=hr;obtain ⟨x,rfl,hx⟩:=q0N hc
 exact z2d x _ n _ (fun j hj=>absurd hj (BG j)) hs hk (fun hb i=>q2N _ (hu i) (q2O _ hb)) (fun i hi hp=>q0e (round i hi hp) ⟨x,_,rfl,hx,r,rfl,hr⟩)) rfl
def RoundG{ι:Type}(Hf:ι→List SObj)(S:ι→List SV)(μ:ι→Nat)(p:ι→Prop)(i:ι):List SV→List SObj→Prop:=
 fun t' H'=>∃j,p j∧μ j<μ i∧(∃G,H'=Hf j++G)∧leM t' (S j)
theorem z1V{P:Program}{k:List It}{ι:Type}(c:Code)(S:ι→List SV)(Hf:ι→List SObj)(μ:ι→Nat)(p:ι→Prop)(i₀:ι)(h₀:p i₀)(N:Nat)(hH:H=Hf i₀)(hk:k0≤N)(hN:∀i,(Hf i).length=N)(hB:∀i,belH N (Hf i)=true)(hs:leM t (S i₀))(hb:SV.belL N t=true→∀i,SV.belL N (S i)=true)
 (round:∀i,p i→Sound P AQ ⟨k0,.code c :: .stop (RoundG Hf S μ p i) :: k,S i,Hf i⟩):Sound P AQ ⟨k0,.code (.loop c) :: k,t,H⟩:=fun E r m C a h0 hd=>by
 subst hH;have hbt:∀i,SV.belL N (S i)=true:=hb (by have:=q1A hd.tmps;rwa [hd.wd.n,hN] at this)
 simp only [wpT];refine q1a (fun m a w=>∃i,p i∧μ i=m∧∃C,C.w=w∧Den E C (S i) (Hf i) a) (μ i₀) ⟨i₀,h₀,rfl,C,rfl,hd.wd,hd.ext,hd.defs,q2K (q3b hs) hd.tmps⟩ ?_;rintro m' a w ⟨i,hp,rfl,C,rfl,hd⟩;have h1:=round i hp E r m C a h0 hd;simp only [wpT] at h1;refine wpIn_mono h1 fun e a w hq=> ?_;cases e with
 |normal=>
  obtain ⟨C',t',H',⟨j,hp',hlt,⟨G,rfl⟩,hS⟩,rfl,hd'⟩:=hq;refine ⟨μ j,hlt,j,hp',rfl,C'.ren (fun h=>h) (Hf j).length,rfl,?_⟩;exact q8c h0.1 hd' (q8M hS) (by rw [hN];exact hbt _) (fun h o ho _=>by rw [q3F,Ag (Aa.1 ho).1];exact ho) (by rw [hN];exact hB j) (fun _ _ _ _ _ _ _ _ e=>e) (fun _ _=>rfl) (by rw [hN];exact hk) (fun _ hp hn=>by rw [Ag (by rw [hN];exact Am hp (An h0.1 hk))] at hn;exact hn)
 |exit id=>simpa only [Exit.then,exitT] using hq
 |_=>exact hq
theorem q2d{ι:Type}{c:IC}(upd:ι→List (Nat×SV))(Hf:ι→List SObj)(μ:ι→Nat)(p:ι→Prop)(i₀:ι)(h₀:p i₀)(N:Nat)(hH:H=Hf i₀)(hk:k0≤N)(hN:∀i,(Hf i).length=N)(hB:∀i,belH N (Hf i)=true)(hu:∀i,((upd i).all fun x=>x.2.bel N)=true)(hs:leM t (setMany (maskT c.wr t) (upd i₀)))
 (round:∀i,p i→SoundI P AQ ⟨k0,.ic c :: .stop (RoundG Hf (fun i=>setMany (maskT c.wr t) (upd i)) μ p i) :: k,setMany (maskT c.wr t) (upd i),Hf i⟩):SoundI P AQ ⟨k0,.ic (.loop c) :: k,t,H⟩:=q0d (fun td' hr=>by
 obtain ⟨c',r,rfl,hc,hr⟩:=hr;obtain ⟨x,rfl,hx⟩:=q0N hc
 exact z1V x _ Hf μ p i₀ h₀ N hH hk hN hB hs (fun hb i=>q2N _ (hu i) (q2O _ hb)) (fun i hi=>q0e (round i hi) ⟨x,_,rfl,hx,r,rfl,hr⟩)) rfl
theorem q0I{q:Nat→Prop}{i:Nat}(hall:∀j,j<i→q j)(h:q i):∀j,j<i+1→q j:=fun j hj=>by
 by_cases e:j=i
 · subst e;exact h
 exact hall j (by omega)

def shift(n m h:Nat):Nat:=if h=n then m else h
def RoundA(H:List SObj)(ty:Ty)(S:Nat→List SV)(xs:Nat→List ty.den)(n:Nat)(p:Nat→Prop)(i:Nat):List SV→List SObj→Prop:=
 fun t' H'=>i<n∧p (i+1)∧∃G G',H'=H++G++ [.row ty (xs (i+1))]++G'∧leT (shift H.length (H.length+G.length)) t' (S (i+1))
theorem q9q{n m:Nat}:(∀ {s:SV},s.bel n=true→s.ren (shift n m)=s)∧(∀ {l:List SV},SV.belL n l=true→SV.renL (shift n m) l=l):=by
 have hlt:∀h,decide (h<n)=true→shift n m h=h:=fun h hh=>by unfold shift;rw [if_neg (by have:=of_decide_eq_true hh;omega)]
 refine ⟨fun {s}=> ?_,fun {l}=> ?_⟩
 · exact SV.rec (motive_1:=fun s=>s.bel n=true→s.ren (shift n m)=s) (motive_2:=fun l=>SV.belL n l=true→SV.renL (shift n m) l=l)
    (by intro h;rw [SV.ren]) (by intros;rw [SV.ren]) (by intros;rw [SV.ren]) (by intros;rw [SV.ren]) (by intros;rw [SV.ren]) (fun h _ hb=>by rw [SV.bel] at hb;rw [SV.ren,hlt _ hb]) (fun h _ _ _ hb=>by rw [SV.bel] at hb;rw [SV.ren,hlt _ hb]) (fun h _ _ hb=>by rw [SV.bel] at hb;rw [SV.ren,hlt _ hb]) (fun h _ _ _ hb=>by rw [SV.bel] at hb;rw [SV.ren,hlt _ hb]) (fun h _ _ _ _ hb=>by rw [SV.bel] at hb;rw [SV.ren,hlt _ hb]) (by intros;rw [SV.ren])
    (fun l ih hb=>by rw [SV.bel] at hb;rw [SV.ren,ih hb]) (fun l ih hb=>by rw [SV.bel] at hb;rw [SV.ren,ih hb]) (fun f a b iha ihb hb=>by rw [SV.bel,Aj] at hb;rw [SV.ren,iha hb.1,ihb hb.2]) (fun T x ih hb=>by rw [SV.bel] at hb;rw [SV.ren,ih hb]) (fun h hb=>by rw [SV.bel] at hb;rw [SV.ren,hlt _ hb]) (by intros;rw [SV.ren])
    (fun _=>by rw [SV.renL]) (fun s l ihs ihl hb=>by rw [SV.belL,Aj] at hb;rw [SV.renL,ihs hb.1,ihl hb.2]) s
 exact SV.rec_1 (motive_1:=fun s=>s.bel n=true→s.ren (shift n m)=s) (motive_2:=fun l=>SV.belL n l=true→SV.renL (shift n m) l=l)
  (by intro h;rw [SV.ren]) (by intros;rw [SV.ren]) (by intros;rw [SV.ren]) (by intros;rw [SV.ren]) (by intros;rw [SV.ren]) (fun h _ hb=>by rw [SV.bel] at hb;rw [SV.ren,hlt _ hb]) (fun h _ _ _ hb=>by rw [SV.bel] at hb;rw [SV.ren,hlt _ hb]) (fun h _ _ hb=>by rw [SV.bel] at hb;rw [SV.ren,hlt _ hb]) (fun h _ _ _ hb=>by rw [SV.bel] at hb;rw [SV.ren,hlt _ hb]) (fun h _ _ _ _ hb=>by rw [SV.bel] at hb;rw [SV.ren,hlt _ hb]) (by intros;rw [SV.ren])
  (fun l ih hb=>by rw [SV.bel] at hb;rw [SV.ren,ih hb]) (fun l ih hb=>by rw [SV.bel] at hb;rw [SV.ren,ih hb]) (fun f a b iha ihb hb=>by rw [SV.bel,Aj] at hb;rw [SV.ren,iha hb.1,ihb hb.2]) (fun T x ih hb=>by rw [SV.bel] at hb;rw [SV.ren,ih hb]) (fun h hb=>by rw [SV.bel] at hb;rw [SV.ren,hlt _ hb]) (by intros;rw [SV.ren])
  (fun _=>by rw [SV.renL]) (fun s l ihs ihl hb=>by rw [SV.belL,Aj] at hb;rw [SV.renL,ihs hb.1,ihl hb.2]) l
theorem z2i{P:Program}{k:List It}(c:Code)(ty:Ty)(S:Nat→List SV)(xs:Nat→List ty.den)(n:Nat)(p:Nat→Prop)(h₀:p 0)(hs:leM t (S 0))(hk:k0≤H.length)(hx0:xs 0= [])(hbh:belH H.length H=true)(hb:SV.belL (H.length+1) t=true→∀i,SV.belL (H.length+1) (S i)=true)
 (round:∀i,i≤n→p i→Sound P AQ ⟨k0,.code c :: .stop (RoundA H ty S xs n p i) :: k,S i,H++ [.row ty (xs i)]⟩):Sound P AQ ⟨k0,.code (.loop c) :: k,t,H++ [.row ty []]⟩:=fun E r m C a h0 hd=>by
 have hbt:∀i,SV.belL (H.length+1) (S i)=true:=hb (by have:=q1A hd.tmps;rw [hd.wd.n] at this;simpa using this)
 have hbh':∀ys:List ty.den,belH (H.length+1) (H++ [.row ty ys])=true:=fun ys=>q5H fun h o ho=>by
  rcases q0t ho with ⟨_,ho⟩ | ⟨_,rfl⟩
  · have:=q5r (hd.wd.obj h o (by rw [Ag (Aa.1 ho).1];exact ho));rw [hd.wd.n] at this;simpa using this
  rfl
 simp only [wpT];refine q1a (fun m a w=>∃i,i≤n∧p i∧n-i=m∧∃C,C.w=w∧Den E C (S i) (H++ [.row ty (xs i)]) a) n ⟨0,Al _,h₀,rfl,C,rfl,by rw [hx0];exact hd.wd,by rw [hx0];exact hd.ext,by rw [hx0];exact hd.defs,q2K (q3b hs) hd.tmps⟩ ?_
 rintro m' a w ⟨i,hi,hp,rfl,C,rfl,hd⟩;have h1:=round i hi hp E r m C a h0 hd;simp only [wpT] at h1;refine wpIn_mono h1 fun e a w hq=> ?_;cases e with
 |normal=>
  obtain ⟨C',t',H',⟨hlt,hp',G,G',rfl,hS⟩,rfl,hd'⟩:=hq;refine ⟨n- (i+1),by omega,i+1,hlt,hp',rfl,C'.ren (shift H.length (H.length+G.length)) (H++ [SObj.row ty (xs (i+1))]).length,rfl,?_⟩
  have hsh:∀h,h<H.length→shift H.length (H.length+G.length) h=h:=fun h hh=>by unfold shift;rw [if_neg (by omega)]
  have hshn:shift H.length (H.length+G.length) H.length=H.length+G.length:=by unfold shift;rw [if_pos rfl]
  refine q8c h0.1 hd' hS (by simpa using hbt (i+1)) (fun h o ho hl=> ?_) (by simpa using hbh' (xs (i+1))) (fun h h' o o' ho ho' _ _ e=> ?_) (fun h hh=>hsh h (Am hh hk)) (by simp;exact Nat.le_succ_of_le hk) (fun _ hp hn=>z3D (Am hp (An h0.1 hk)) (by simpa only [List.append_assoc] using hn))
  · rcases q0t ho with ⟨hh,ho⟩ | ⟨hh,rfl⟩
    · rw [hsh h hh];have hr:o.ren (shift H.length (H.length+G.length))=o:=by
       have hbo:=q3f hbh ho;cases o with
       |cells T cs=>simp only [SObj.ren];rw [q9q.2 (by simpa [SObj.bel] using hbo)]
       |map kk ks vs=>simp only [SObj.ren];rw [q9q.2 (by simpa [SObj.bel] using hbo)]
       |_=>rfl
      rw [hr,List.append_assoc,List.append_assoc,Ag hh];exact ho
    subst hh;rw [hshn];simp [SObj.ren]
  have hlen:∀ {h:Nat} {o:SObj},(H++ [SObj.row ty (xs (i+1))])[h]?=some o→h≤H.length:=fun ho=>by have:=(Aa.1 ho).1;simp at this;omega
  have g1:=hlen ho;have g2:=hlen ho';unfold shift at e;split at e<;>split at e<;>omega
 |exit id=>simpa only [Exit.then,exitT] using hq
 |_=>exact hq
theorem j0S{c:IC}(slot:Nat)(ty:Ty)(xs:Nat→List ty.den)(upd:Nat→List (Nat×SV))(n:Nat)(q:Nat→Prop)(hk:k0≤H.length)(hx0:xs 0= [])(hbh:belH H.length H=true)(hu:∀i,((upd i).all fun x=>x.2.bel (H.length+1))=true)
 (hs:leM t (setMany (maskT c.wr t) ((slot,.bld H.length ty 0) :: upd 0)))
 (round:∀i,i≤n→(∀j,j<i→q j)→SoundI P AQ ⟨k0,.ic c :: .stop (RoundA H ty (fun i=>setMany (maskT c.wr t) ((slot,.bld H.length ty (xs i).length) :: upd i)) xs n (fun i=>∀j,j<i→q j) i) :: k,setMany (maskT c.wr t) ((slot,.bld H.length ty (xs i).length) :: upd i),H++ [.row ty (xs i)]⟩):
 SoundI P AQ ⟨k0,.ic (.loop c) :: k,t,H++ [.row ty []]⟩:=q0d (fun td' hr=>by
 obtain ⟨c',r,rfl,hc,hr⟩:=hr;obtain ⟨x,rfl,hx⟩:=q0N hc;refine z2i x ty _ xs n _ (fun j hj=>absurd hj (BG j)) (by rw [hx0];exact hs) hk hx0 hbh (fun hb i=>q2N _ ?_ (q2O _ hb)) (fun i hi hp=>q0e (round i hi hp) ⟨x,_,rfl,hx,r,rfl,hr⟩)
 rw [Bt,Aj]
 exact ⟨by rw [SV.bel];simp,hu i⟩) rfl
attribute [go_sem] leT leS shift SV.ren SV.renL
end Go.Sx
namespace Go.Sx
open Go

def Ty.inR:(t:Ty)→t.den→Prop
 |.u8,_=>True
 |.int k,n=>k.min≤n∧n≤k.max
 |.bool,_=>True
 |.str,_=>True
 |.slice t,xs=>∀x∈xs,t.inR x
 |.prod a b,x=>a.inR x.1∧b.inR x.2
 |.unit,_=>True
 |.arr _ t,xs=>∀x∈xs,t.inR x
 |.ptr t,x=>∀y,x=some y→t.inR y
 |.clo _ t,x=>t.inR x
 |.clp _ t,x=>t.inR x
 |.mbs t,x=>∀xs,x=some xs→∀y∈xs,t.inR y
def tyFs(P:Program)(rec:TypeId→Option Ty):List Field→Nat→Option Ty
 | [],_=>none
 |f :: fs,off=>match rec f.type with
  |none=>none
  |some a=>if f.offset=off∧P.cellsOf f.type=a.size then
   (match fs with
   | []=>some a
   |_ :: _=>(tyFs P rec fs (off+a.size)).map (.prod a ·)) else none
def tyRd(P:Program):Nat→TypeId→Option Ty
 |0,_=>none
 |n+1,t=>match P.underlying t with
  |some .bool=>some .bool
  |some (.int .u8)=>some .u8
  |some (.int k)=>some (.int k)
  |some .string=>some .str
  |some (.slice e)=>match tyRd P n e with
   |some a=>if P.cellsOf e=a.size∧0<P.bytesOf e∧0<a.size then some (.slice a) else none
   |none=>none
  |some (.struct fs)=>match tyFs P (tyRd P n) fs.toList 0 with
   |some a=>if P.cellsOf t=a.size then some a else none
   |none=>none
  |_=>none

variable {H:Type} {enc:TypeId×Value→H} {P:Program} {w:World} {spare:Nat→Bool} {held:Bool}

theorem q0v{l r:List Nat}{B:Nat}(h:(l++r).all (· ≤B)=true):l.all (· ≤B)=true∧r.all (· ≤B)=true:=by
 rw [List.all_append,Aj] at h;exact h
theorem q4j{e:TypeId}{B:Nat}:∀ {l:List (DataW H)} {i:Nat} {d:DataW H},(DataW.weightsAll P e l).all (· ≤B)=true→l[i]?=some d→(d.weights P e).all (· ≤B)=true
 | [],_,_,_,h=>by simp at h
 |x :: l,0,d,hw,h=>by
  simp at h;subst h;rw [DataW.weightsAll] at hw;exact (q0v hw).1
 |x :: l,i+1,d,hw,h=>by
  rw [DataW.weightsAll] at hw;exact q4j (q0v hw).2 (by simpa using h)
theorem cells?_cell{a:Addr}{n:Nat}{cs:List Value}(h:w.cells? 0 a n=some cs):∀ (k:Nat) (u:Value),cs[k]?=some u→w.cell? (a.add k)=some u:=by
 intro k u hu;unfold World.cells? at h;rw [if_pos (Al _)] at h;have hl:=mapM_some_length h;rw [B2] at hl;have hk:k<n:=by rw [←hl];exact (Aa.1 hu).1
 have:=mapM_some_get h k k (by simp [hk])
 rw [this,hu]
theorem cell?_spot{a:Addr}{v:Value}(h:w.cell? a=some v):a.spot=none∧a.block<w.heap.size:=by
 unfold World.cell? at h;split at h
 · rename_i c t f hb;split at h
   · cases h
   rename_i hs;exact ⟨by simpa using hs,(AA.1 hb).1⟩
 cases h
theorem z1E{α:Type}{n:Nat}{p:Nat→α→Prop}(h:∀i,i<n→∃x,p i x):∃l:List α,l.length=n∧∀i x,l[i]?=some x→p i x:=by
 induction n with
 |zero=>exact ⟨[],rfl,fun i x h=>by simp at h⟩
 |succ n ih=>
  obtain ⟨l,hl,hp⟩:=ih (fun i hi=>h i (by omega))
  obtain ⟨x,hx⟩:=h n (by omega)
  refine ⟨l++ [x],by simp [hl],fun i y hy=> ?_⟩
  rcases AC i l.length with hi|hi
  · rw [Ag hi] at hy;exact hp i y hy
  rw [Ao hi] at hy;have:i-l.length=0:=by
   rcases AC (i-l.length) 1 with h1|h1
   · omega
   rw [AJ (by simpa using h1)] at hy;cases hy
  rw [this] at hy;simp at hy;subst hy;have:i=n:=by omega
  rw [this];exact hx
theorem q7U{n:Nat}{rec:TypeId→Option Ty}{cs:List Value}
 (ih:∀ (t:TypeId) (cs:List Value) (d:DataW H) (ps:List MemPlace) (ty:Ty),rec t=some ty→DataW.trod enc P w 0 spare held n t cs=some (d,ps)→(d.weights P t).all (· ≤reachBytes)=true→∃x:ty.den,ty.rel (fun b=>b<w.heap.size) w x cs∧ty.inR x):
 ∀ (fs:List Field) (xs:List (DataW H×List MemPlace)) (off:Nat) (ty:Ty),tyFs P rec fs off=some ty→xs.length=fs.length→
  (∀ (i:Nat) (f:Field),fs[i]?=some f→DataW.trod enc P w 0 spare held n f.type ((cs.drop f.offset).take (P.cellsOf f.type))=xs[i]?)→
  (DataW.weightsEach P (fs.map (·.type)) (xs.map (·.1))).all (· ≤reachBytes)=true→cs.length=off+ty.size→
  ∃x:ty.den,ty.rel (fun b=>b<w.heap.size) w x (cs.drop off)∧ty.inR x
 | [],_,_,_,h,_,_,_,_=>by simp [tyFs] at h
 |f :: fs,xs,off,ty,h,hl,hx,hw,hc=>by
  unfold tyFs at h;split at h
  · cases h
  rename_i a ha;split at h
  · rename_i hk;obtain ⟨ho,hs⟩:=hk;cases xs with
    |nil=>simp at hl
    |cons y ys=>
     have h0:=hx 0 f rfl;simp only [Cn] at h0;simp only [AT,DataW.weightsEach] at hw;obtain ⟨hw1,hw2⟩:=q0v hw;obtain ⟨x,hx1,hx2⟩:=ih f.type _ y.1 y.2 a ha h0 hw1;rw [ho,hs] at hx1;split at h
     · cases h;rw [Ah (by rw [Ak];omega)] at hx1
       exact ⟨x,hx1,hx2⟩
     rename_i g gs;simp only [Ap] at h;obtain ⟨b,hb,rfl⟩:=h;have hsz:(Ty.prod a b).size=a.size+b.size:=rfl;obtain ⟨z,hz1,hz2⟩:=q7U ih (g :: gs) ys (off+a.size) b hb (by simpa using hl) (fun i f' hf=>by have:=hx (i+1) f' (by simpa using hf);simpa using this) hw2 (by omega)
     refine ⟨(x,z),⟨_,_,?_,hx1,hz1⟩,hx2,hz2⟩;rw [←Bp,Bb]
  cases h

theorem q6q:∀ (fuel n:Nat) (t:TypeId) (cs:List Value) (d:DataW H) (ps:List MemPlace) (ty:Ty),tyRd P n t=some ty→DataW.trod enc P w 0 spare held fuel t cs=some (d,ps)→(d.weights P t).all (· ≤reachBytes)=true→
 ∃x:ty.den,ty.rel (fun b=>b<w.heap.size) w x cs∧ty.inR x
 |_,0,_,_,_,_,_,h,_,_=>by simp [tyRd] at h
 |0,n+1,t,cs,d,ps,ty,h,hd,hw=>by simp [DataW.trod] at hd
 |fuel+1,n+1,t,cs,d,ps,ty,h,hd,hw=>by
  unfold tyRd at h;split at h
  · rename_i hu;cases h;obtain ⟨b,rfl,_⟩:=DataW.trod_bool hu hd;exact ⟨b,rfl,trivial⟩
  · rename_i hu;cases h;obtain ⟨m,rfl,_,hwf⟩:=DataW.trod_int hu hd;simp only [Lit.wf,Aj,decide_eq_true_eq] at hwf;have h1:(0:Int)≤m:=hwf.1;have h2:m≤255:=hwf.2;refine ⟨UInt8.ofNat m.toNat,?_,trivial⟩;simp only [Ty.rel];have:((UInt8.ofNat m.toNat).toNat:Int)=m:=by rw [BV];omega
    rw [this]
  · rename_i k hne hu;cases h;obtain ⟨m,rfl,_,hwf⟩:=DataW.trod_int hu hd;simp only [Lit.wf,Aj,decide_eq_true_eq] at hwf;exact ⟨m,rfl,hwf⟩
  · rename_i hu;cases h;obtain ⟨s,rfl,hx,_⟩:=DataW.trod_string hu hd;cases hx;simp only [DataW.weights,Bt,Cs,BA] at hw;have hw:=of_decide_eq_true hw;refine ⟨s,⟨rfl,?_⟩,trivial⟩;have e1:s.data.toList.length=s.size:=by simp
    rw [e1] at hw;simp only [reachBytes] at hw;omega
  · rename_i e hu;split at h
    · rename_i a ha;split at h
      · rename_i hk;obtain ⟨hk1,hk2,hk3⟩:=hk;cases h;rcases DataW.trod_slice hu hd with ⟨rfl,hx⟩ | ⟨A,len,cap,elems,rest,m,hm,rfl,hx,_,hlc,_,hel,he,_,_⟩
        · exact ⟨[],⟨_,_,_,rfl,rfl,Ae _,by simp,.inl rfl⟩,fun x hx=>by cases hx⟩
        cases hm;cases hx;simp only [DataW.weights,hu,Bt,Aj,decide_eq_true_eq] at hw;obtain ⟨hw0,hw1⟩:=hw;obtain ⟨hw1,_⟩:=q0v hw1;have hlen:len≤1125899906842624:=by
         simp only [A5,reachBytes] at hw0;have:len*1≤(elems.length+rest.length)*P.bytesOf e:=Nat.mul_le_mul (by omega) hk2
         omega
        have key:∀i,i<len→∃x:a.den,(∃us,w.cells? 0 (A.add (i*P.cellsOf e)) (P.cellsOf e)=some us∧a.rel (fun b=>b<w.heap.size) w x us)∧a.inR x:=fun i hi=>by
         have h1:=he i hi;have hlt:i<elems.length:=by omega
         rw [Ab hlt,A9] at h1;obtain ⟨us,hu1,hu2⟩:=h1;obtain ⟨x,hx1,hx2⟩:=q6q fuel n e us elems[i].1 elems[i].2 a ha hu2 (q4j hw1 (by rw [AN,Ab hlt];rfl))
         exact ⟨x,⟨us,hu1,hx1⟩,hx2⟩
        obtain ⟨xs,hxl,hxp⟩:=z1E key;refine ⟨xs,⟨some A,len,cap,rfl,hxl.symm,hlc,hlen,?_⟩,fun x hx=> ?_⟩
        · by_cases h0:xs= []
          · exact .inl h0
          right;have hpos:0<len:=by rw [←hxl];exact List.length_pos_iff.2 h0
          obtain ⟨x0,⟨us0,hu0,hr0⟩,_⟩:=key 0 hpos;have hl0:=a.rel_size _ _ hr0;have hc0:us0[0]?=some (us0.getD 0 default):=by
           rw [Ad];rw [Ab (show 0<us0.length by omega)];rfl
          have hcell:=cells?_cell hu0 0 _ hc0;have hadd:(A.add (0*P.cellsOf e)).add 0=A:=by simp [Addr.add]
          rw [hadd] at hcell;obtain ⟨hsp,hbl⟩:=cell?_spot hcell;refine ⟨A.block,A.off,by cases A;simp at hsp;subst hsp;rfl,hbl,fun i x hx=> ?_⟩
          obtain ⟨⟨us,hu1,hr1⟩,_⟩:=hxp i x hx;refine ⟨us,hr1,fun k u hu=> ?_⟩;have:=cells?_cell hu1 k u hu;have e1:(A.add (i*P.cellsOf e)).add k=⟨A.block,A.off+i*a.size+k,none⟩:=by
           cases A;simp only at hsp;subst hsp;simp only [Addr.add,hk1];split<;>split<;>simp_all
          rw [e1] at this;exact this
        obtain ⟨i,hi,rfl⟩:=AV hx;exact (hxp i _ (Ab hi)).2
      cases h
    cases h
  · rename_i fs hu;split at h
    · rename_i a ha;split at h
      · rename_i hk;cases h;obtain ⟨xs,m,hm,hx,hlen,hxl,hxs⟩:=DataW.trod_struct hu hd;cases hm;cases hx;simp only [DataW.weights,hu] at hw;have:=q7U (cs:=cs) (fun t cs d ps ty=>q6q fuel n t cs d ps ty) fs.toList xs 0 _ ha (by simpa using hxl) (fun i f hf=>hxs i f (by simpa using hf)) hw (by omega)
        simpa using this
      cases h
    cases h
  cases h
end Go.Sx
namespace Go.Sx
open Go Go.ChangeShapes Go.WideShapes Go.RowKit

def Cx.top(w:World):Cx:={ρ:=fun _=>none,n:=0,I:=fun b=>b<w.heap.size,w:=w}
theorem z1F{P:Program}{f:FuncId}{args:List SV}{v:Value}{w:World}{vs:List Value}(h:PC P f args (.raw v))(hd:SV.denL (Cx.top w) args vs)(ht:TabT (Cx.top w) []:=by exact ⟨fun e he=>absurd he (by simp [tabList]),fun e he=>absurd he (by simp [datList])⟩):
 Calls P f vs.toArray w fun e w'=>e= .returned v∧Below w.heap.size w w':=by
 have h1:VCall P f args [] (fun o _=>o= .ret (.raw v)):=h.2 [] _ rfl;have hw:Wd (Cx.top w) []:=⟨rfl,fun h o ho=>by simp at ho,fun b ⟨h,o,ho,_⟩=>by simp at ho,fun h h' o o' b ho=>by simp at ho,fun b hb=>hb⟩
 refine (h1 (Cx.top w) vs hw ht hd).mono ?_;rintro e w' ⟨o,H',C',rfl,rfl,_,hx,u,rfl,hu⟩;rw [SV.den] at hu;subst hu;exact ⟨rfl,hx.os,hx.tape,hx.output,hx.size,fun b hb=>hx.frame b hb (fun ⟨h,o,ho,_⟩=>by simp at ho)⟩

section
variable {H:Type} {enc:TypeId×Value→H} {P:Program}
theorem trodAll_below'(hl:laidOutB P=true){W W':World}(hb:Below W.heap.size W W'){ts:List TypeId}{vs:List Value}{ds:List (DataW H)}{ps:List MemPlace}(ht:∀t∈ts,P.readableRec t=true∧t<P.types.size)
 (h:DataW.TrodAll enc P W 0 (fun _=>true) true ts vs ds ps)(hlt:∀x∈ps,x.block<W.heap.size)(sp:Nat→Bool)(hsp:∀p∈ps,sp p.block=true):DataW.TrodAll enc P W' 0 sp true ts vs ds ps:=by
 induction ts generalizing vs ds ps with
 |nil=>
  obtain ⟨rfl,rfl,rfl⟩:=trodAll_nil h;exact rfl
 |cons t ts ih=>
  obtain ⟨v,vs,d,ds,p,q,rfl,rfl,rfl,h0,h1⟩:=trodAll_cons h;refine ⟨p,q,?_,ih (fun t' h'=>ht t' (by simp [h'])) h1 (fun x hx=>hlt x (by simp [hx])) (fun x hx=>hsp x (by simp [hx])),rfl⟩
  exact WideElems.Trod_stays hl (ht t (by simp)).1 (ht t (by simp)).2 h0 (fun x hx=>hb.same (hlt x (by simp [hx]))) (fun x hx=>hsp x (by simp [hx]))

theorem shut_bool'{t:TypeId}{w:World}{base:Nat}{spare:Nat→Bool}{held:Bool}(ht:P.underlying t=some .bool)(b:Bool):DataW.Trod enc P w base spare held t (.bool b) (.lit (.bool b)) []:=
 ⟨1,by simp [DataW.trod,Value.cells,ht]⟩

theorem z9h{f:Func}{s:ChangeSpec}{W W':World}{args:Array Value}{ds gs:List (DataW H)}{before:List MemPlace}{tb:TypeId}
 (hl:laidOutB P=true)(ht:∀t∈f.params.toList,P.readableRec t=true∧t<P.types.size)(hr:f.resultTypes= #[tb])(htb:P.underlying tb=some .bool)(hvs:s.vars= [])
 (hW:DataW.Whole enc P f.params.toList s.vars false W args.toList ds gs before)(hfn:s.fn H (ds++gs)={results:=[.lit (.bool true)],args:=ds})(hb:Below W.heap.size W W'):
 s.post enc P f false true false false W args (.bool true) W':=by
 have hlt:=hW.lt;have hW':=hW;rw [hvs] at hW;obtain ⟨p,q,hA,hV,rfl,hz,hn⟩:=hW;obtain ⟨rfl,rfl⟩:gs= []∧q= []:=by
  cases gs with
  |nil=>exact ⟨rfl,hV⟩
  |cons g gs=>exact hV.elim
 rw [Ai] at hlt hz hW';have hres:∀ (b:Nat) (sp:Nat→Bool) (hd:Bool),DataW.TrodAll enc P W' b sp hd f.resultTypes.toList ((Value.bool true).resultList f.resultTypes.size) (s.fn H (ds++ [])).results []:=fun b sp hd=>by
  rw [hr,hfn];exact trodAll_mk1 (shut_bool' htb true)
 have hargs:∀sp:Nat→Bool,(∀p'∈p,sp p'.block=true)→DataW.TrodAll enc P W' 0 sp true f.params.toList args.toList (s.fn H (ds++ [])).args p:=fun sp hsp=>by
  rw [hfn];exact trodAll_below' hl hb ht hA hlt sp hsp
 have hvars:∀sp:Nat→Bool,DataW.TrodVars enc P W' sp s.vars (s.fn H (ds++ [])).vars []:=fun sp=>by
  rw [hvs,hfn];exact rfl
 have hold:∀p'∈p,(fun b=>decide (b<W.heap.size)) p'.block=true:=fun p' hp=>by simpa using hlt p' hp
 refine ⟨ds,[],p,[],p,[],hW',hres _ _ _,hargs _ hold,hvars _,World.keptBut_mono (fun p' hp=>⟨hp,.inr (by simpa using hp)⟩) (hb.frame _),fun _=> ?_⟩
 refine ⟨ok_one hr rfl (okWide_bool_mk htb true),_,_,([]++p)++ [],⟨[]++p,[],trodAll_append (hargs _ (fun _ _=>rfl)) (hres _ _ _),hvars _,rfl,?_,?_⟩,?_⟩
 · intro b off hp;have hp':MemPlace.cell b off∈p:=by simpa using hp
   rw [hb.frozen (p:=⟨b,off,none⟩) (hlt _ hp')];exact hz b off hp'
 · intro ha;cases ha
 intro p' hp _;simpa using hp
end
end Go.Sx
