/- A part of the proof: a symbolic executor over abstract values, and its soundness. -/
import Derived.Test.YthbcodbcndiapaaGreatDoorP10
import Derived.Deep.Draws
import Derived.Sort.Grow
import Derived.RangeFuncRecord
set_option linter.all false
namespace Go.Sx
open Go
variable {P:Program} {AQ:Ex->List SV->List SObj->Prop} {k0:Nat} {k:List IT} {t:List SV} {H:List SObj}

variable {ty:Ty}{xs:List ty.den}{d:Option Tmp}{td:List IT}
def z5x[Ghost]{f:FuncId}{args:List SV}(hp:VC P f args [] (RowK ty xs))(hb:SV.belL 0 args=true)(hargs:args=SV.renL (sig [] H.length) args)
 (h0:xs= []->SoundI P AQ ⟨k0,td,putT t d (.raw (.slice none 0 0)),H⟩)(h:SoundI P AQ ⟨k0,td,putT t d (.bld H.length ty xs.length),H++ [.row ty xs]⟩):CallI P AQ f args d ⟨k0,td,t,H⟩:=by
 refine ⟨hp.1,VCall.g ?_⟩;rw [hargs];refine VCall.fr (H0:=[]) [] (by simp) trivial hb rfl hp.2 ?_;rintro o H' _ (⟨e,rfl,rfl⟩ | ⟨rfl,rfl⟩)
 . simp only [mgA,B3,Ah];exact h0 e
 exact h
def q1P[Ghost](d h:Nat){T:TypeId}{x:ty.den}(hp:plainT td=true)(hok:ty.ok x)(hH:H[h]?=some (.cells T (ty.cells x)))(hd:t[d]?=some (.ptr h 0))(hs:SoundI P AQ ⟨k0,td,t.set d (.iptr ty x 0),H.set h .dead⟩)(hkn:ty.known=true:=by rfl):
 SoundI P AQ ⟨k0,td,t,H⟩:=q0f (fun td' hr E r n C a h0 hden=>by
 have h1:=q0g hs hr;obtain ⟨b,vs,hb,hcell,hvs⟩:=hden.wd.obj h _ hH;have hown:OwnB C H b:=⟨h,_,hH,rfl,hb⟩;obtain ⟨hnI,hlt⟩:=hden.wd.own b hown;have hoff:∀b',OwnB C (H.set h .dead) b'->OwnB C H b'∧b'≠b:=by
  rintro b' ⟨i,o,ho,hl,hb'⟩;by_cases e:h=i
  . subst e;rw [Ar (Ag.1 hH).1] at ho;cases ho;simp [SObj.live] at hl
  rw [Aq e] at ho;refine ⟨⟨i,o,ho,hl,hb'⟩,fun e'=> ?_⟩;subst e';exact e (hden.wd.inj h i _ o b' hH ho rfl hl hb hb')
 let C':Cx:={C with I:=fun b'=>C.I b'∨b'=b}
 have he:Evo C C':=⟨Af _,fun _ _=>rfl,fun b' hb'=>⟨.inl hb',rfl⟩,fun _ _ hm=>hm⟩;have hw:Wd C' (H.set h .dead):=by
  refine ⟨by simp [C',hden.wd.n],fun i o ho=> ?_,fun b' hb'=> ?_,fun i i' o o' b' h1 h2 h3 h4 h5 h6=> ?_,fun b' hb'=> ?_⟩
  . by_cases e:h=i
    . subst e;rw [Ar (Ag.1 hH).1] at ho;cases ho;trivial
    rw [Aq e] at ho;exact q0E he.I i rfl (fun _ _=>rfl) (q0h he) (hden.wd.obj i o ho)
  . obtain ⟨g1,g2⟩:=hoff b' hb';have:=hden.wd.own b' g1;exact ⟨fun hi=>hi.elim this.1 g2,this.2⟩
  . have key:∀ {i:Nat} {o:SObj},(H.set h .dead)[i]?=some o->o.live=true->H[i]?=some o:=fun {i o} ho hl=>by
     by_cases e:h=i
     . subst e;rw [Ar (Ag.1 hH).1] at ho;cases ho;simp [SObj.live] at hl
     rwa [Aq e] at ho
    exact hden.wd.inj i i' o o' b' (key h1 h3) (key h2 h4) h3 h4 h5 h6
  exact hb'.elim (hden.wd.imm b') fun e=>e▸hlt
 have hmk:∀n,H[0]?=some (.mark n)->(H.set h .dead)[0]?=some (.mark n):=fun n hn=>q3R hH rfl hn;have hx:Ext E.toEn C' (H.set h .dead):=by
  refine ⟨hden.ext.evo.trans he,hden.ext.size,hden.ext.os,hden.ext.tape,hden.ext.output,hden.ext.frame,fun b' hb'=> ?_,fun b' hb'=>hden.ext.ownNew b' (hoff b' hb').1,fun n h0 hn=>hmk n (hden.ext.keep0 n h0 hn)⟩;rcases hb' with hb'|rfl
  . exact hden.ext.immNew b' hb'
  exact .inr ⟨hden.ext.ownNew b' hown,q4y (C:=C) hden.wd hown⟩
 have hg:Ghost.inv E C' (H.set h .dead):=Ghost.same (C:=C) (C':=C') hden.wd rfl (fun b' hb'=>.inl hb') (fun b' (hb':C.I b'∨b'=b)=>hb'.elim .inl fun e=>.inr (by subst e;exact hown)) (fun b' hb'=>(hoff b' hb').1) (fun n _ hn=>hmk n hn) hden.ext.evo.n hden.defs.2;refine h1 E r n C' a h0 ⟨hw,hx,⟨hden.defs.1,hg⟩,?_⟩;have ht:=q0h he hden.tmps;obtain ⟨v,hv,hdv⟩:=q1Z ht hd;rw [SV.den] at hdv;obtain ⟨_,b',hb',rfl⟩:=hdv;have e:b'=b:=by have:C.ρ h=some b':=hb';rw [hb] at this;exact (Option.some.inj this).symm
 subst e;have hi:(SV.iptr ty x 0).den C' (.pointer (some ⟨b',0,none⟩)):=by rw [SV.den];exact ⟨b',0,vs,rfl,.inr rfl,ty.cells_rel _ _ hkn hok (q0h he hvs),fun j u hj=>by rw [Ae];show C.w.cell? _=_;rw [q0o hcell];exact hj⟩
 have h9:=q2k (i:=d) ht hi;have e9:a.tmps.toList.set d (.pointer (some ⟨b',0,none⟩))=a.tmps.toList:=by
  apply Bf;intro j;by_cases ej:d=j
  . subst ej;rw [Ar (Ag.1 hv).1,hv]
  rw [Aq ej]
 rwa [e9] at h9) hp
def z2B[Ghost](d h i k:Nat)(hp:plainT td=true)(hH:H[h]?=some (.row ty xs))(hd:t[d]?=some (.rptr h ty i k))(hi:i<xs.length)(hlen:xs.length<=1125899906842624)(ho:frzObH h ty xs H)(hot:SV.frzObL h ty xs t)
 (hs:SoundI P AQ ⟨k0,td,(SV.frzL h ty xs t).set d (.iptr ty (xs.getD i ty.dflt) k),frzH h ty xs H⟩):SoundI P AQ ⟨k0,td,t,H⟩:=q0f (fun td' hr E r n C a h0 hden=>by
 obtain ⟨g1,g2⟩:=z8r hden.wd hden.ext hH hlen ho;have hdef:DefOk E (C.frz h) (frzH h ty xs H) a.defers:=⟨hden.defs.1,Ghost.same hden.wd rfl (fun _ h=>.inl h) (fun b hb=>orMap hb id fun hb=>⟨h,_,hH,rfl,hb⟩) (fun b hb=>(z6L hden.wd hH hb).1) (fun _ _ hn=>q9T hH hn) hden.ext.evo.n hden.defs.2⟩;have ht:=q2o hden.wd hH hlen hot hden.tmps;refine q0g hs hr E r n (C.frz h) a h0 ⟨g1,g2,hdef,?_⟩;obtain ⟨v,hv,hdv⟩:=q1Z hden.tmps hd;rw [SV.den] at hdv;obtain ⟨_,b,hb,rfl⟩:=hdv;rcases hden.wd.obj h _ hH with ⟨_,h2⟩ | ⟨b',arr,T,fz,hb',hcell,hfz,hsz,hrow⟩
 . subst h2;simp at hi
 rw [hb] at hb';cases hb';obtain ⟨us,q1,q2⟩:=hrow i (xs.getD i ty.dflt) (by rw [Aa,Ac hi];rfl);have hx:(SV.iptr ty (xs.getD i ty.dflt) k).den (C.frz h) (.pointer (some ⟨b,i*ty.size+k,none⟩)):=by rw [SV.den];refine ⟨b,i*ty.size,us,rfl,.inr hb,Ty.rel_keep (q0S C h).I _ _ _ q1,fun j u hj=> ?_⟩;have:=q2 j u hj;rw [Ae] at this;exact this
 have h9:=q2k (i:=d) ht hx;have e9:a.tmps.toList.set d (.pointer (some ⟨b,i*ty.size+k,none⟩))=a.tmps.toList:=by
  apply Bf;intro j;by_cases ej:d=j
  . subst ej;rw [Ar (Ag.1 hv).1,hv]
  rw [Aq ej]
 rwa [e9] at h9) hp

variable {P:Program} {AQ:Ex->List SV->List SObj->Prop} {k0:Nat} {k:List IT} {t:List SV} {H:List SObj}

section
variable [Ghost] {P:Program} {AQ:Ex->List SV->List SObj->Prop} {k0:Nat} {k:List IT} {t:List SV} {H:List SObj}

def q8l{k:List It}{t':List SV}(A A' G:List SObj)(hk:k0<=A.length)(hA:A=A'.map (SObj.ren (shift A.length (A.length+G.length))))(hb:belH (A.length+1) A'=true)(hbt:SV.belL (A.length+1) t'=true)
 (hl:leT (shift A.length (A.length+G.length)) t t')(hs:Sound P AQ ⟨k0,k,t',A'++ [.row ty xs]⟩):Sound P AQ ⟨k0,k,t,A++G++ [.row ty xs]⟩:=by
 intro E r n C a h0 hd;have hlen:A.length=A'.length:=by have:=congrArg List.length hA;rwa [AX] at this
 have hsh:∀h,h<A.length->shift A.length (A.length+G.length) h=h:=fun h hh=>by unfold shift;rw [if_neg (by omega)]
 have hshn:shift A.length (A.length+G.length) A.length=A.length+G.length:=by unfold shift;rw [if_pos rfl]
 have hd':Den E (C.ren (shift A.length (A.length+G.length)) (A'++ [SObj.row ty xs]).length) t' (A'++ [.row ty xs]) a:=by
  refine q7x h0.1 hd hl (by rw [Ab,<-hlen];exact hbt) (fun h o ho _=> ?_) (q4D fun h o ho=> ?_) (fun h h' o o' ho ho' _ _ e=> ?_) (fun h hh=>hsh h (An hh hk)) (by rw [Ab,<-hlen];exact As hk (CB _ _)) (fun m hm0 hm=> ?_)
  . rcases q0p ho with ⟨hh,ho⟩ | ⟨hh,rfl⟩
    . rw [hsh h (by omega),List.append_assoc,Ai (by omega)];have:=congrArg (fun l=>l[h]?) hA;simp only [AF,ho] at this;exact this
    rw [hh,<-hlen,hshn,<-Ab,Ao (Af _),Nat.sub_self];rfl
  . rcases q0p ho with ⟨hh,ho⟩ | ⟨hh,rfl⟩
    . rw [Ab,<-hlen];exact q2I hb ho
    rfl
  . have h1:=(Ag.1 ho).1;have h2:=(Ag.1 ho').1;rw [Ab,Bx] at h1 h2;unfold shift at e;split at e<;>split at e<;>omega
  have hm:=hm;have hpos:0<A.length:=An hm0 (As h0.1 hk);rw [List.append_assoc,Ai hpos] at hm;rw [Ai (by omega)];have h1:=congrArg (fun l=>l[0]?) hA;simp only [AF,hm] at h1;cases h2:A'[0]? with
  |none=>rw [h2] at h1;simp at h1
  |some o=>rw [h2] at h1;cases o<;>simp [SObj.ren] at h1;rw [h1]
 exact hs E r n (C.ren (shift A.length (A.length+G.length)) (A'++ [SObj.row ty xs]).length) a h0 hd'
def z2p(t':List SV)(A A' G:List SObj)(hp:plainT td=true)(hH:H=A++G++ [.row ty xs])(hk:k0<=A.length)(hA:A=A'.map (SObj.ren (shift A.length (A.length+G.length))))(hb:belH (A.length+1) A'=true)(hbt:SV.belL (A.length+1) t'=true)
 (hl:leT (shift A.length (A.length+G.length)) t t')(hs:SoundI P AQ ⟨k0,td,t',A'++ [.row ty xs]⟩):SoundI P AQ ⟨k0,td,t,H⟩:=by
 subst hH;exact q0f (fun _ hr=>q8l A A' G hk hA hb hbt hl (q0g hs hr)) hp
def z2L(slot n:Nat)(A A' G:List SObj)(hp:plainT td=true)(hH:H=A++G++ [.row ty xs])(hk:k0<=A.length)(hA:A=A'.map (SObj.ren (shift A.length (A.length+G.length))))(hb:belH (A.length+1) A'=true)(hbt:SV.belL (A.length+1) (t.set slot (.bld A.length ty n))=true)
 (hl:leT (shift A.length (A.length+G.length)) t (t.set slot (.bld A.length ty n)))(hs:SoundI P AQ ⟨k0,td,t.set slot (.bld A.length ty n),A'++ [.row ty xs]⟩):SoundI P AQ ⟨k0,td,t,H⟩:=
 z2p _ A A' G hp hH hk hA hb hbt hl hs

def z5c{a b c:SV}(h:leM1 a b)(k:leM1 b c):leM1 a c:=by cases c<;>first|trivial| (simp only [leM1] at k;subst k;exact h)
def z8t(s:SV):leM1 s s:=(q4K [s]).1
def z0k:∀ {a b c:List SV},leM a b->leM b c->leM a c
 | [],[],[],_,_=>trivial
 |_ :: _,_ :: _,_ :: _,h,k=>⟨z5c h.1 k.1,z0k h.2 k.2⟩
 | [],[],_ :: _,_,k=>k.elim
 | [],_ :: _,_,h,_=>h.elim
 |_ :: _,[],_,h,_=>h.elim
 |_ :: _,_ :: _,[],_,k=>k.elim
def z7o:∀ (t:List SV) (d:Nat),leM t (t.set d .any)
 | [],_=>trivial
 |_ :: l,0=>⟨trivial,q4K l⟩
 |s :: l,d+1=>⟨z8t s,z7o l d⟩
def z4o:∀ (ws:List Nat) (t:List SV),leM t (maskT ws t)
 | [],t=>q4K t
 |d :: ws,t=>z0k (z7o t d) (z4o ws _)
def q2X(ws:List Nat)(hp:plainT td=true)(hs:SoundI P AQ ⟨k0,td,maskT ws t,H⟩):SoundI P AQ ⟨k0,td,t,H⟩:=
 q0f (fun _ hr E r n C a h0 hd=>q0g hs hr E r n C a h0 ⟨hd.wd,hd.ext,hd.defs,q2L (q3h (z4o ws t)) hd.tmps⟩) hp

def VC.arg{f:FuncId}{args args':List SV}{K:Out->List SObj->Prop}(h:VC P f args H K)(hl:SV.leVL args' args):VC P f args' H K:=
 ⟨h.1,fun C vs hw ht hv=>h.2 C vs hw ht (q4P hl hv)⟩
end

variable {P:Program}
def PCE(P:Program)(f:FuncId)(args:List SV)(p:SV->Prop):Prop:=enters P f=true∧∀ (H:List SObj) (K:Out->List SObj->Prop),(∀s,p s->K (.ret s) H)->VCall P f args H K
def PCE.mono{f:FuncId}{args:List SV}{p q:SV->Prop}(h:PCE P f args p)(hq:∀s,p s->q s):PCE P f args q:=⟨h.1,fun H K hk=>h.2 H K fun s hs=>hk s (hq s hs)⟩
section
variable [Ghost] {AQ:Ex->List SV->List SObj->Prop}
end

section
variable {AQ:Ex->List SV->List SObj->Prop}
def q3z[Ghost]{b:Nat}{t:Ty}{x:t.den}{ag:Option Nat}{s:SV}{m:IM}(hm:(b,(⟨t,x⟩:Sigma Ty.den))∈datList)(hs:SV.ofT ag t x=some s)(ha:ag=none∨ag=some t.size)(hk:SoundI P AQ {m with tmps:=putT m.tmps d s}):ZldI P AQ ag b 0 d m:=by rintro E C _ ⟨⟨ht,_⟩,_⟩;exact ⟨s,.inr ⟨t,x,(ht.dat _ hm).2,hs,ha⟩,hk⟩
end
end Go.Sx
namespace Go.Proofs.YthbcodbcndiapaaGreatDoor
open Go Go.Sx Go.Proofs
set_option maxRecDepth 100000
set_option maxHeartbeats 40000000
def fdivW(x:Int)(n:Nat)(hn:0<n):x.fdiv (n:Int)=x / (n:Int):=Be _ (by omega)
def q5b(b:List UInt8)(h:List Int)(n:Nat):(blkP b h n).length=8:=by simp [blkP]
variable {i:Nat}
def q4W(b:List UInt8)(h:List Int)(hi:i<8):(blkP b h i).getD i 0=h.getD i 0:=by simp [blkP,Aa,hi]
theorem q5l(b:List UInt8)(h:List Int)(hi:i<8):(blkP b h i).set i ((h.getD i 0+ (rnds b h 64).getD i 0)%W32)=blkP b h (i+1):=by
 apply Aw
 . simp [blkP]
 intro j h1 h2;rw [Bn];simp only [blkP,AG,Ay];split
 . subst_vars;rw [if_pos (by omega)]
 rename_i hne;by_cases hj:j<i
 . rw [if_pos hj,if_pos (by omega)]
 rw [if_neg hj,if_neg (by omega)]
variable {h:List Int}
theorem q3E(b:List UInt8)(hl:h.length=8):blkP b h 0=h:=by
 apply Aw
 . simp [blkP,hl]
 intro j h1 h2;simp only [blkP,AG,Ay];rw [if_neg (Bl _),Aa,Ac h2];rfl
def q4J(b:List UInt8)(h:List Int):blkP b h 8=blkS b h:=by
 apply Aw
 . simp [blkP,blkS]
 intro j h1 h2;simp [blkP] at h1;simp only [blkP,blkS,AG,Ay];rw [if_pos h1]
def u8wrapR(x:Int):IntKind.u8.wrap x=x%256:=by simp [IntKind.wrap,IntKind.bits,IntKind.signed]
def q2K(x:Int):((UInt8.ofNat (IntKind.u8.wrap x).toNat).toNat:Int)=IntKind.u8.wrap x:=by have:=u8wrapR x;rw [A8];omega
def padZ(b:List UInt8)(k:Nat):List UInt8:=b++ [128]++List.replicate k 0
def padN(n:Nat):Nat:=(119-n%64)%64
def j0v(b:List UInt8)(k:Nat):(padZ b k).length=b.length+1+k:=by simp [padZ];omega
def lnB8(n:Nat)(j:Nat):List UInt8:=(List.range j).map fun i=>UInt8.ofNat (n / 2^ (8* (7-i))%256)
def z9O(n j:Nat):(lnB8 n j).length=j:=by simp [lnB8]
def padS(b:List UInt8):List UInt8:=padZ b (padN b.length)++lnB8 (8*b.length) 8
def hS0:List Int:=[0x6a09e667,0xbb67ae85,0x3c6ef372,0xa54ff53a,0x510e527f,0x9b05688c,0x1f83d9ab,0x5be0cd19]
def hashS(p:List UInt8):Nat->List Int
 |0=>hS0
 |k+1=>blkS ((p.take (64*k+64)).drop (64*k)) (hashS p k)
variable {b:List UInt8}
theorem z1O:inWs (blkS b h):=by refine ⟨by simp [blkS],fun x hx=> ?_⟩;obtain ⟨i,_,rfl⟩:=By.1 hx;unfold inW W32;omega
def q6p:inWs hS0:=by decide
def wordB(h:List Int)(i:Nat):UInt8:=UInt8.ofNat ((h.getD (i / 4) 0).toNat / 2^ (24-8* (i%4))%256)
def bytesP(h:List Int)(n:Nat):List UInt8:=(List.range 32).map fun i=>if i<n then wordB h i else 0
def bytesS(h:List Int):List UInt8:=(List.range 32).map (wordB h)
def q8C(h:List Int)(n:Nat):(bytesP h n).length=32:=by simp [bytesP]
def q1f(h:List Int):(bytesS h).length=32:=by simp [bytesS]
theorem q4a(h:List Int)(hi:i<32):(bytesP h i).set i (wordB h i)=bytesP h (i+1):=by
 apply Aw
 . simp [bytesP]
 intro j h1 h2;rw [Bn];simp only [bytesP,AG,Ay];split
 . subst_vars;rw [if_pos (by omega)]
 rename_i hne;by_cases hj:j<i
 . rw [if_pos hj,if_pos (by omega)]
 rw [if_neg hj,if_neg (by omega)]
def z5q(h:List Int):bytesP h 32=bytesS h:=by
 apply Aw
 . simp [bytesP,bytesS]
 intro j h1 h2;simp [bytesP] at h1;simp only [bytesP,bytesS,AG,Ay];rw [if_pos h1]
def blksN(b:List UInt8):Nat:=(b.length+72) / 64
def shaS(b:List UInt8):List UInt8:=bytesS (hashS (padS b) (blksN b))
def xor8(a b:UInt8):xorK .u8 (a.toNat:Int) (b.toNat:Int)=((a^^^ b).toNat:Int):=by
 unfold xorK;have ha:=a.toNat_lt;have hb:=b.toNat_lt;have hx:a.toNat^^^ b.toNat<2^ 8:=Nat.xor_lt_two_pow ha hb;have e:(BitVec.ofInt IntKind.u8.bits (a.toNat:Int) ^^^ BitVec.ofInt IntKind.u8.bits (b.toNat:Int)).toNat=a.toNat^^^ b.toNat:=by rw [BitVec.toNat_xor,AO,AO,AU,AU];rw [show 2^ IntKind.u8.bits=256 from rfl,AV ha,AV hb]
 rw [e,u8wrapR,Dd];omega
def hkP(k:List UInt8)(c:UInt8)(n:Nat):List UInt8:=(List.range 64).map fun i=>if i<n then k.getD i 0^^^ c else 0
def hkC(k:List UInt8):List UInt8:=if 64<k.length then shaS k else k
def hkS(k:List UInt8)(c:UInt8):List UInt8:=hkP (hkC k) c 64
def z0a(k:List UInt8)(c:UInt8)(n:Nat):(hkP k c n).length=64:=by simp [hkP]
theorem j3M(k:List UInt8)(c:UInt8)(hi:i<64):(hkP k c i).set i (k.getD i 0^^^ c)=hkP k c (i+1):=by
 apply Aw
 . simp [hkP]
 intro j h1 h2;rw [Bn];simp only [hkP,AG,Ay];split
 . subst_vars;rw [if_pos (by omega)]
 rename_i hne;by_cases hj:j<i
 . rw [if_pos hj,if_pos (by omega)]
 rw [if_neg hj,if_neg (by omega)]
theorem z9X(k:List UInt8)(c:UInt8):hkP k c 0=List.replicate 64 0:=by unfold hkP;rw [B9];refine ⟨by rw [AX,Bo],fun x hx=> ?_⟩;obtain ⟨j,_,rfl⟩:=By.1 hx;exact if_neg (Bl _)
def dblS(b:UInt8):UInt8:=if 128<=b.toNat then (b<<<1) ^^^ 27 else b<<<1
def z8n{p:UInt8->Prop}(h:∀n:Fin 256,p (UInt8.ofNat n.val))(b:UInt8):p b:=by have:=h ⟨b.toNat,b.toNat_lt⟩;rwa [AZ] at this
theorem shl8(b:UInt8):IntKind.u8.wrap ((b.toNat:Int)*2^ min 1 8)=((b<<<1).toNat:Int):=by rw [u8wrapR,UInt8.toNat_shiftLeft,C6];have:(1:UInt8).toNat%8=1:=rfl;rw [this,show ((2:Int) ^ min 1 8)=2 from rfl];omega
def xor27(b:UInt8):xorK .u8 (b.toNat:Int) 27=((b^^^ 27).toNat:Int):=xor8 b 27
def mulA:Nat->Nat->UInt8->UInt8->UInt8
 |0,_,_,p=>p
 |n+1,a,b,p=>if a=0 then p else mulA n (a / 2) (dblS b) (if a%2=1 then p^^^ b else p)
def mulS(a b:UInt8):UInt8:=mulA 8 a.toNat b 0
theorem z7G(n:Nat)(b p:UInt8):mulA n 0 b p=p:=by
 cases n with
 |zero=>rfl
 |succ n=>exact if_pos rfl
def z8T{n a:Nat}(b p:UInt8)(h0:a≠0)(h:a<2^ n):∃m,a / 2<2^ m∧mulA n a b p=mulA m (a / 2) (dblS b) (if a%2=1 then p^^^ b else p):=by
 cases n with
 |zero=>simp at h;omega
 |succ n=>exact ⟨n,by rw [Nat.pow_succ] at h;omega,if_neg h0⟩
def fS(g:Nat->UInt8):List UInt8:=(List.range 16).map g
def q1U(g:Nat->UInt8):(fS g).length=16:=by simp [fS]
def q7E(g:Nat->UInt8)(hi:i<16):(fS g).getD i 0=g i:=by simp [fS,Aa,hi]
def addS(b w:List UInt8)(r:Nat):List UInt8:=fS fun i=>b.getD i 0^^^ w.getD (16*r+i) 0
def mixA(b f:List UInt8)(c r:Nat):Nat->UInt8
 |0=>0
 |k+1=>mixA b f c r k^^^ mulS (f.getD ((k+4-r)%4) 0) (b.getD (4*c+k) 0)
def mixS(b f:List UInt8):List UInt8:=fS fun i=>mixA b f (i / 4) (i%4) 4
def q7P(b:UInt8):PC Tryz.prog 295 [.raw (.int .u8 b.toNat)] (.raw (.int .u8 (dblS b).toNat)):=by refine q0q rfl rfl ?_;refine rQ fi295 ?_;rw [shl8,xor27];unfold dblS;exact ⟨fun h=>by rw [if_pos (by omega)],fun h=>by rw [if_neg (by omega)]⟩
def and1{x:Nat}(hx:x<256):andK .u8 (x:Int) 1=((x%2:Nat):Int):=by
 have h:∀n:Fin 256,andK .u8 (n.val:Int) 1=((n.val%2:Nat):Int):=by decide
 exact h ⟨x,hx⟩
theorem j0p(a b:UInt8):PC Tryz.prog 297 [.raw (.int .u8 a.toNat),.raw (.int .u8 b.toNat)] (.raw (.int .u8 (mulS a b).toNat)):=by
 refine q0q rfl rfl ?_;refine rQ fi297 ?_;have ha:=a.toNat_lt;obtain ⟨R,hR⟩:∃R,R=mulS a b:=⟨_,rfl⟩;rw [<-hR];refine q0k (ι:=Nat×UInt8×UInt8) (fun s=>[(0,.raw (.int .u8 s.1)),(1,.raw (.int .u8 s.2.1.toNat)),(4,.raw (.int .u8 s.2.2.toNat))]) (fun _=>[]) (fun s=>s.1) (fun s=>s.1<256∧∃n,s.1<2^ n∧R=mulA n s.1 s.2.1 s.2.2) (a.toNat,b,0) ⟨ha,8,ha,hR⟩ rfl ?_ ?_
 . with_reducible refine sxE ?_
   rfl
 rintro ⟨x,y,p⟩ ⟨hx,n,hn,hRn⟩;dsimp only at*;by_cases h0:x=0
 . subst h0;rw [z7G] at hRn;subst hRn;refine gQ ?_;trivial
 have f1:((x:Int)=0)=False:=eq_false (by omega);obtain ⟨m,hm,hRm⟩:=z8T y p h0 hn;rw [hRm] at hRn;refine gy1 f1 ?_;have e1:(x:Int).fdiv (2^ min 1 8)=((x / 2:Nat):Int):=by show (x:Int).fdiv 2=_;rw [Be _ (by decide)];omega
 rw [and1 hx];refine ⟨fun hb=>q0a (q7P y) ?_,fun hb=>q0a (q7P y) ?_⟩
 . rw [if_pos (by omega)] at hRn;refine gy1 e1 ?_;refine ⟨(x / 2,dblS y,p^^^ y),⟨by dsimp only;omega,m,hm,hRn⟩,by dsimp only;omega,rfl,?_⟩;simp (maxSteps:=3000000) only [xor8,go_sem,↓zA,↓reduceIte,↓reduceDIte] <;>try simp only [zB]
 rw [if_neg (by omega)] at hRn;refine gy1 e1 ?_;refine ⟨(x / 2,dblS y,p),⟨by dsimp only;omega,m,hm,hRn⟩,by dsimp only;omega,rfl,?_⟩;with_reducible refine sxE ?_;trivial
def q8K(i:Nat)(hi:i<16):PC Tryz.prog 288 [rI i] (rI ((4* (i / 4+i%4)+i%4)%16:Nat)):=by
 refine q0q rfl rfl ?_;refine rQ fi288 ?_;have h:∀n:Fin 16,((IntKind.i64.wrap (IntKind.i64.wrap (4*IntKind.i64.wrap (IntKind.i64.wrap (((n.val:Nat):Int).tdiv 4)+ ((n.val:Nat):Int).tmod 4))+ ((n.val:Nat):Int).tmod 4)).tmod 16)=(((4* (n.val / 4+n.val%4)+n.val%4)%16:Nat):Int):=by decide
 exact ⟨by decide,by decide,by decide,by decide,congrArg _ (h ⟨i,hi⟩)⟩
abbrev CipT:Ty:=.prod (.prod (.arr 256 .u8) (.arr 256 .u8)) (.prod (.arr 176 .u8) .bool)
abbrev PasT:Ty:=.prod (.ptr CipT) (.prod (.arr 16 .u8) (.arr 16 .u8))
def gP(b:List UInt8)(g:Nat->UInt8)(n:Nat):List UInt8:=(List.range 16).map fun j=>if j<n then g j else b.getD j 0
def q7O(b:List UInt8)(g:Nat->UInt8)(n:Nat):(gP b g n).length=16:=by simp [gP]
def q5M(g:Nat->UInt8)(hb:b.length=16):gP b g 0=b:=by
 apply Aw
 . rw [q7O,hb]
 intro j h1 h2;simp [gP,Aa,Ac h2]
def q8E(b:List UInt8)(g:Nat->UInt8):gP b g 16=fS g:=by unfold gP fS;exact Ba fun i hi=>if_pos (BE.1 hi)
def z4j(b:List UInt8)(g:Nat->UInt8){n:Nat}(hi:i<16)(hn:n<=i):(gP b g n).getD i 0=b.getD i 0:=by simp only [gP,Aa,AF,Cm hi,Bz,A1];rw [if_neg (by omega)]
theorem q8P(b:List UInt8)(g:Nat->UInt8)(hi:i<16):(gP b g i).set i (g i)=gP b g (i+1):=by
 apply Aw
 . simp [gP]
 intro j h1 h2;rw [Bn];simp only [gP,AG,Ay];split
 . subst_vars;rw [if_pos (by omega)]
 rename_i hne;by_cases hj:j<i
 . rw [if_pos hj,if_pos (by omega)]
 rw [if_neg hj,if_neg (by omega)]
def z3R(c:Option CipT.den)(b k:List UInt8)(hb:b.length=16)(hk:k.length=16):PE Tryz.prog 268 [.rptr 0 PasT 0 0] [.row PasT [(c,(b,k))]] (.ret (.tup [])) [.row PasT [(c,(addS b k 0,k))]]:=by
 refine q0b (Af _) ?_;refine rQ fi268 ?_;refine q0k (ι:=Nat) (fun i=>[(3,rI i)]) (fun i=>[.row PasT [(c,(gP b (fun j=>b.getD j 0^^^ k.getD j 0) i,k))]]) (fun i=>16-i) (fun i=>i<=16) 0 (Al _) (by rw [q5M _ hb]) ?_ fun i hi=> ?_
 . with_reducible refine sxE ?_;trivial
 have hwr:=wsx i (by omega);have hgl:=q7O b (fun j=>b.getD j 0^^^ k.getD j 0) i;by_cases hlt:i<16
 . have f1:((i:Int) <16)=True:=eq_true (by omega);refine uQ 600 _ ?_;have hgg:(gP b (fun j=>b.getD j 0^^^ k.getD j 0) i).getD i Ty.u8.dflt=b.getD i 0:=z4j _ _ hlt (Af _);have hkk:k.getD i Ty.u8.dflt=k.getD i 0:=rfl;simp (maxSteps:=3000000) only [f1,hgl,hk,AD,hgg,hkk,xor8,Az,AZ,go_sem,↓zA,↓reduceIte,↓reduceDIte] <;>try simp only [zB]
   refine ⟨⟨by omega,hlt⟩,hlt,⟨by omega,hlt⟩,hlt,⟨by omega,hlt⟩,hlt,i+1,hlt,by show 16- (i+1) <16-i;omega,?_,?_⟩
   . dsimp only;rw [<-q8P b (fun j=>b.getD j 0^^^ k.getD j 0) hlt]
   with_reducible refine sx1 hwr ?_;trivial
 obtain rfl:i=16:=by omega
 rw [q8E];refine uQ 600 _ ?_;have f1:(((16:Nat):Int) <16)=False:=eq_false (by omega);simp (maxSteps:=3000000) only [f1,go_sem,↓zA,↓reduceIte,↓reduceDIte] <;>try simp only [zB]
 simp only [addS,Nat.mul_zero,Ae]
theorem z4R(c:CipT.den)(x:UInt8):PC Tryz.prog 294 [.iptr CipT c 0,.raw (.int .u8 x.toNat)] (.raw (.int .u8 ((c.1.1:List UInt8).getD x.toNat 0).toNat)):=by refine q0q rfl rfl ?_;refine rQ fi294 ?_;have hx:=x.toNat_lt;exact ⟨⟨by omega,hx⟩,rfl⟩
def q9C(c:CipT.den)(b k:List UInt8)(hb:b.length=16):PE Tryz.prog 284 [.rptr 0 PasT 0 0] [.row PasT [(some c,(b,k))]] (.ret (.tup [])) [.row PasT [(some c,(fS fun j=>(c.1.1:List UInt8).getD (b.getD j 0).toNat 0,k))]]:=by
 refine q0b (Af _) ?_;refine rQ fi284 ?_;refine q0k (ι:=Nat) (fun i=>[(3,rI i)]) (fun i=>[.row PasT [(some c,(gP b (fun j=>(c.1.1:List UInt8).getD (b.getD j 0).toNat 0) i,k))]]) (fun i=>16-i) (fun i=>i<=16) 0 (Al _) (by rw [q5M _ hb]) ?_ fun i hi=> ?_
 . with_reducible refine sxE ?_;trivial
 have hwr:=wsx i (by omega);have hgl:=q7O b (fun j=>(c.1.1:List UInt8).getD (b.getD j 0).toNat 0) i;by_cases hlt:i<16
 . have f1:((i:Int) <16)=True:=eq_true (by omega);have hgg:(gP b (fun j=>(c.1.1:List UInt8).getD (b.getD j 0).toNat 0) i).getD i Ty.u8.dflt=b.getD i 0:=z4j _ _ hlt (Af _);refine uQ 600 _ ?_;simp (maxSteps:=3000000) only [f1,hgl,AD,hgg,C5,Ty.cells,go_sem,↓zA,↓reduceIte,↓reduceDIte] <;>try simp only [zB]
   refine ⟨⟨by omega,hlt⟩,hlt,q0c (z4R c (b.getD i 0)) ?_⟩;refine uQ 600 _ ?_;simp (maxSteps:=3000000) only [hgl,AD,Az,AZ,go_sem,↓zA,↓reduceIte,↓reduceDIte] <;>try simp only [zB]
   refine ⟨⟨by omega,hlt⟩,hlt,i+1,hlt,by show 16- (i+1) <16-i;omega,?_,?_⟩
   . dsimp only;rw [<-q8P b (fun j=>(c.1.1:List UInt8).getD (b.getD j 0).toNat 0) hlt]
   with_reducible refine sx1 hwr ?_;trivial
 obtain rfl:i=16:=by omega
 rw [q8E];refine uQ 600 _ ?_;have f1:(((16:Nat):Int) <16)=False:=eq_false (by omega);simp (maxSteps:=3000000) only [f1,go_sem,↓zA,↓reduceIte,↓reduceDIte] <;>try simp only [zB]
theorem z6Y(c:CipT.den)(x:UInt8):PC Tryz.prog 289 [.iptr CipT c 0,.raw (.int .u8 x.toNat)] (.raw (.int .u8 ((c.1.2:List UInt8).getD x.toNat 0).toNat)):=by refine q0q rfl rfl ?_;refine rQ fi289 ?_;have hx:=x.toNat_lt;exact ⟨⟨by omega,hx⟩,rfl⟩
def z5o(c:CipT.den)(b k:List UInt8)(hb:b.length=16):PE Tryz.prog 271 [.rptr 0 PasT 0 0] [.row PasT [(some c,(b,k))]] (.ret (.tup [])) [.row PasT [(some c,(fS fun j=>(c.1.2:List UInt8).getD (b.getD j 0).toNat 0,k))]]:=by
 refine q0b (Af _) ?_;refine rQ fi271 ?_;refine q0k (ι:=Nat) (fun i=>[(3,rI i)]) (fun i=>[.row PasT [(some c,(gP b (fun j=>(c.1.2:List UInt8).getD (b.getD j 0).toNat 0) i,k))]]) (fun i=>16-i) (fun i=>i<=16) 0 (Al _) (by rw [q5M _ hb]) ?_ fun i hi=> ?_
 . with_reducible refine sxE ?_;trivial
 have hwr:=wsx i (by omega);have hgl:=q7O b (fun j=>(c.1.2:List UInt8).getD (b.getD j 0).toNat 0) i;by_cases hlt:i<16
 . have f1:((i:Int) <16)=True:=eq_true (by omega);have hgg:(gP b (fun j=>(c.1.2:List UInt8).getD (b.getD j 0).toNat 0) i).getD i Ty.u8.dflt=b.getD i 0:=z4j _ _ hlt (Af _);refine uQ 600 _ ?_;simp (maxSteps:=3000000) only [f1,hgl,AD,hgg,C5,Ty.cells,go_sem,↓zA,↓reduceIte,↓reduceDIte] <;>try simp only [zB]
   refine ⟨⟨by omega,hlt⟩,hlt,q0c (z6Y c (b.getD i 0)) ?_⟩;refine uQ 600 _ ?_;simp (maxSteps:=3000000) only [hgl,AD,Az,AZ,go_sem,↓zA,↓reduceIte,↓reduceDIte] <;>try simp only [zB]
   refine ⟨⟨by omega,hlt⟩,hlt,i+1,hlt,by show 16- (i+1) <16-i;omega,?_,?_⟩
   . dsimp only;rw [<-q8P b (fun j=>(c.1.2:List UInt8).getD (b.getD j 0).toNat 0) hlt]
   with_reducible refine sx1 hwr ?_;trivial
 obtain rfl:i=16:=by omega
 rw [q8E];refine uQ 600 _ ?_;have f1:(((16:Nat):Int) <16)=False:=eq_false (by omega);simp (maxSteps:=3000000) only [f1,go_sem,↓zA,↓reduceIte,↓reduceDIte] <;>try simp only [zB]
end Go.Proofs.YthbcodbcndiapaaGreatDoor
namespace Go.Sx
open Go

variable {P:Program}

def Ty.bare:Ty->Bool
 |.slice _=>false
 |.ptr _=>false
 |.clo _ _=>false
 |.clp _ _=>false
 |.mbs _=>false
 |.prod a b=>a.bare&& b.bare
 |.arr _ t=>t.bare
 |_=>true
def q5n{I I':Nat->Prop}{w w':World}:∀ (t:Ty) (x:t.den) (vs:List Value),t.bare=true->t.rel I w x vs->t.rel I' w' x vs
 |.u8,_,_,_,h=>h
 |.int _,_,_,_,h=>h
 |.bool,_,_,_,h=>h
 |.str,_,_,_,h=>h
 |.slice _,_,_,hb,_=>by cases hb
 |.prod a b,x,vs,hb,h=>by simp only [Ty.bare,Am] at hb;obtain ⟨v1,v2,rfl,h1,h2⟩:=h;exact ⟨v1,v2,rfl,q5n a _ _ hb.1 h1,q5n b _ _ hb.2 h2⟩
 |.unit,_,_,_,h=>h
 |.arr n t,xs,vs,hb,h=>by obtain ⟨hn,vss,rfl,hl,h⟩:=h;exact ⟨hn,vss,rfl,hl,fun i x us hx hu=>q5n t _ _ hb (h i x us hx hu)⟩
 |.ptr _,_,_,hb,_=>by cases hb
 |.clo _ _,_,_,hb,_=>by cases hb
 |.clp _ _,_,_,hb,_=>by cases hb
 |.mbs _,_,_,hb,_=>by cases hb
def SObj.bare:SObj->Bool
 |.dead=>true
 |.row t _=>t.bare
 |_=>false
variable {C C':Cx}{h:Nat}
def z3s:∀ {o:SObj},o.bare=true->C'.ρ h=C.ρ h->(o.live=true->∀b,C.ρ h=some b->C'.w.heap[b]?=C.w.heap[b]?)->objDen C h o->objDen C' h o
 |.dead,_,_,_,_=>trivial
 |.row t xs,hb,hr,hw,d=>by
  rcases d with ⟨h1,h2⟩ | ⟨b,arr,T,fz,h1,h2,h3,h4,h5⟩
  . exact .inl ⟨hr.trans h1,h2⟩
  refine .inr ⟨b,arr,T,fz,hr.trans h1,(hw rfl b h1).trans h2,h3,h4,fun i x hx=> ?_⟩;obtain ⟨us,g1,g2⟩:=h5 i x hx;exact ⟨us,q5n t _ _ hb g1,fun k u hu=>by rw [<-g2 k u hu];exact World.cell?_of_block (hw rfl b h1)⟩
 |.cells ..,hb,_,_,_=>by cases hb
 |.map ..,hb,_,_,_=>by cases hb
 |.mark _,hb,_,_,_=>by cases hb
mutual
def SV.bare:SV->Bool
 |.raw _=>true
 |.dat t _=>t.bare
 |.agg l=>SV.bareL l
 |.tup l=>SV.bareL l
 |.any=>true
 |_=>false
def SV.bareL:List SV->Bool
 | []=>true
 |s :: l=>s.bare&& SV.bareL l
end
mutual
theorem z3M{C C':Cx}:∀ {s:SV} {v:Value},s.bare=true->s.den C v->s.den C' v
 |.any,_,_,_=>by rw [SV.den];trivial
 |.raw u,v,_,h=>by rw [SV.den] at h⊢;exact h
 |.dat t x,v,hb,h=>by rw [SV.den] at h⊢;obtain ⟨vs,hv,hr⟩:=h;exact ⟨vs,hv,q5n t _ _ (by simpa [SV.bare] using hb) hr⟩
 |.agg l,v,hb,h=>by rw [SV.den] at h⊢;obtain ⟨vs,hv,hr⟩:=h;exact ⟨vs,hv,q7g (by simpa [SV.bare] using hb) hr⟩
 |.tup l,v,hb,h=>by rw [SV.den] at h⊢;obtain ⟨vs,hv,hr⟩:=h;exact ⟨vs,hv,q7g (by simpa [SV.bare] using hb) hr⟩
 |.isl ..,_,hb,_=>by simp [SV.bare] at hb
 |.fsl ..,_,hb,_=>by simp [SV.bare] at hb
 |.iptr ..,_,hb,_=>by simp [SV.bare] at hb
 |.ptr ..,_,hb,_=>by simp [SV.bare] at hb
 |.rptr ..,_,hb,_=>by simp [SV.bare] at hb
 |.bld ..,_,hb,_=>by simp [SV.bare] at hb
 |.osl ..,_,hb,_=>by simp [SV.bare] at hb
 |.csl ..,_,hb,_=>by simp [SV.bare] at hb
 |.fn ..,_,hb,_=>by simp [SV.bare] at hb
 |.iface ..,_,hb,_=>by simp [SV.bare] at hb
 |.mp ..,_,hb,_=>by simp [SV.bare] at hb
 |.imap ..,_,hb,_=>by simp [SV.bare] at hb
theorem q7g{C C':Cx}:∀ {l:List SV} {vs:List Value},SV.bareL l=true->SV.denL C l vs->SV.denL C' l vs
 | [],_,_,h=>by rw [SV.denL] at h⊢;exact h
 |s :: l,_,hb,h=>by rw [SV.denL] at h⊢;simp only [SV.bareL,Am] at hb;obtain ⟨v,us,rfl,h1,h2⟩:=h;exact ⟨v,us,rfl,z3M hb.1 h1,q7g hb.2 h2⟩
end

def RLies(t:Ty)(xs:List t.den)(off:Nat)(t2:Ty)(y:t2.den):Prop:=
 (∃x,xs= [x]∧t.get x off t2.size=some ⟨t2,y⟩)∨(t2= .arr xs.length t∧off=0∧t.size=1∧0<xs.length∧HEq y xs)
inductive Bor (h:Nat) (t:Ty) (xs:List t.den):SV->SV->Prop where
 |keep {s:SV} (hb:s.bel h=true):Bor h t xs s s
 |bld {n:Nat} (hn:n<=xs.length):Bor h t xs (.bld h t n) (.isl t (xs.take n))
 |osl {off n:Nat} (hn:off+n<=xs.length):Bor h t xs (.osl h t off n) (.isl t ((xs.drop off).take n))
 |csl {e:Ty} {k i n:Nat} {ys:List e.den} {p:Prop} (ho:ownPart e k i n (.row t xs)=some (ys,p)) (hp:p) (hn:n<=1125899906842624):Bor h t xs (.csl h e k i n) (.isl e ys)
 |ptr {t' t2:Ty} {i k:Nat} {y:t2.den} (hr:RLies t xs (i*t'.size+k) t2 y):Bor h t xs (.rptr h t' i k) (.iptr t2 y 0)
inductive BorL (h:Nat) (t:Ty) (xs:List t.den):List SV->List SV->Prop where
 |nil:BorL h t xs [] []
 |cons {s s':SV} {l l':List SV} (h1:Bor h t xs s s') (h2:BorL h t xs l l'):BorL h t xs (s :: l) (s' :: l')

variable {H:List SObj}
variable {t:Ty}{xs:List t.den}
def rlies{off:Nat}{t2:Ty}{y:t2.den}(hw:Wd C H)(hH:H[h]?=some (.row t xs))(hr:RLies t xs off t2 y):∃b,C.ρ h=some b∧Lies C.I C.w b off t2 y:=by
 rcases hr with ⟨x,rfl,hg⟩ | ⟨e,rfl,hs,hl,hy⟩
 . obtain ⟨b,hb,h1⟩:=q1Q (i:=0) hw hH rfl;rw [BF] at h1;have h2:=(z0L t hg h1).1;rw [Ae] at h2;exact ⟨b,hb,h2⟩
 subst e;cases hy;obtain ⟨b,hb,h1⟩:=q9e (i:=0) (m:=xs.length) hw hH hs (by omega) hl;rw [Av,AL] at h1;exact ⟨b,hb,h1⟩
variable {s:SV}
theorem j2Q(hw:Wd C H)(hH:H[h]?=some (.row t xs))(hlen:xs.length<=1125899906842624){s':SV}{v:Value}(hb:Bor h t xs s s')(hd:s.den C v):s'.den {C.frz h with n:=h} v:=by
 have hk:Keeps C.I (C.frz h).I C.w C.w:=fun b hb=>⟨.inl hb,rfl⟩;cases hb with
 |keep hb=>have h1:=q8Z (σ:=fun h=>h) hb (by rw [z3i];exact hd);exact q0Y (C:=C.ren (fun h=>h) h) (C':={C.frz h with n:=h}) ⟨Af _,fun _ _=>rfl,fun b (hb:C.I b)=>⟨Or.inl hb,rfl⟩,fun _ _ h=>h⟩ h1
 |bld hn=>have:=q5L hw hH hlen (off:=0) (by omega) (q6c hd);rw [Av] at this;exact q0F (C:=C.frz h) (Keeps.refl _ _) rfl this
 |osl hn=>exact q0F (C:=C.frz h) (Keeps.refl _ _) rfl (q5L hw hH hlen hn hd)
 |csl ho hp hn=>
  rename_i e k i n ys p;obtain ⟨h1,h2⟩:=q8L hw hH ho hp;simp only [SV.den] at hd;obtain ⟨_,A,c,rfl,hc,hd⟩:=hd;rw [SV.den.eq_def];refine ⟨A,n,c,rfl,h1.symm,hc,hn,?_⟩;rcases hd with h0| ⟨b,hb,rfl⟩
  . exact .inl (BB.1 (h1.trans h0))
  refine .inr ⟨b,_,rfl,.inr hb,fun j y hy=> ?_⟩;obtain ⟨us,g1,g2⟩:=h2 b hb j y hy;exact ⟨us,Ty.rel_keep hk _ _ _ g1,g2⟩
 |ptr hr=>obtain ⟨b,hb,us,g1,g2⟩:=rlies hw hH hr;obtain ⟨b',hb',rfl⟩:=q3G hd;rw [hb] at hb';cases hb';rw [SV.den.eq_def];exact ⟨b,_,us,rfl,.inr hb,Ty.rel_keep hk _ _ _ g1,g2⟩
theorem j0R(hw:Wd C H)(hH:H[h]?=some (.row t xs))(hlen:xs.length<=1125899906842624){l l':List SV}(hb:BorL h t xs l l'):∀ {vs:List Value},SV.denL C l vs->SV.denL {C.frz h with n:=h} l' vs:=by
 induction hb with
 |nil=>intro vs hd;rw [SV.denL] at hd⊢;exact hd
 |cons h1 _ ih=>intro vs hd;rw [SV.denL] at hd⊢;obtain ⟨v,us,rfl,d1,d2⟩:=hd;exact ⟨v,us,rfl,j2Q hw hH hlen h1 d1,ih d2⟩
variable {i:Nat}{o:SObj}
def z4g{l:List SObj}(h:l.all SObj.bare=true)(ho:l[i]?=some o):o.bare=true:=Bb.1 h o (BN ho)
variable {f:FuncId}{args:List SV}
def q8N{args':List SV}{H0 H1:List SObj}(hp:VCall P f args' H0 fun o' H'=>o'= .ret s∧H'=H1)(hl:H1.length=H0.length)(hb0:H0.all SObj.bare=true)(hb1:H1.all SObj.bare=true)(hs:s.bare=true)
 (hlen:xs.length<=1125899906842624)(hb:BorL H0.length t xs args args'):VCall P f args (H0++ [.row t xs]) fun o' H'=>o'= .ret s∧H'=H1++ [.row t xs]:=by
 intro C vs hw ht hv;have hH:(H0++ [SObj.row t xs])[H0.length]?=some (.row t xs):=by rw [Ao (Af _)];simp
 have hn:C.n=H0.length+1:=by rw [hw.n];simp
 have hget:∀ {i o},H0[i]?=some o->(H0++ [SObj.row t xs])[i]?=some o:=fun hi=>by rw [Ai (Ag.1 hi).1];exact hi
 have hown0:∀b,OwnB {C.frz H0.length with n:=H0.length} H0 b->OwnB C (H0++ [.row t xs]) b∧C.ρ H0.length≠some b:=by rintro b ⟨i,o,ho,hlv,hbb⟩;refine ⟨⟨i,o,hget ho,hlv,hbb⟩,fun e=> ?_⟩;have:=hw.inj i H0.length o _ b (hget ho) hH hlv rfl hbb e;have:=(Ag.1 ho).1;omega
 have hwb:Wd {C.frz H0.length with n:=H0.length} H0:=by
  refine ⟨rfl,fun i o ho=>z3s (C:=C) (z4g hb0 ho) rfl (fun _ _ _=>rfl) (hw.obj i o (hget ho)),fun b hb'=> ?_,fun i j o o' b ho ho' hlv hlv' h1 h2=>hw.inj i j o o' b (hget ho) (hget ho') hlv hlv' h1 h2,fun b hb'=> ?_⟩
  . obtain ⟨h1,h2⟩:=hown0 b hb';exact ⟨fun h=>h.elim (hw.own b h1).1 h2,(hw.own b h1).2⟩
  exact hb'.elim (hw.imm b) fun h=>(hw.own b ⟨_,_,hH,rfl,h⟩).2
 refine (hp {C.frz H0.length with n:=H0.length} vs hwb (ht.sub rfl (fun b hb'=>.inl hb') fun b hb'=>(hown0 b hb').1) (j0R hw hH hlen hb hv)).mono ?_;rintro e w' ⟨o,H',C',⟨rfl,rfl⟩,rfl,hw',hx,v,rfl,hd⟩;have hρ:∀i,i<H0.length->C'.ρ i=C.ρ i:=fun i hi=>hx.evo.ρ i hi
 let D:Cx:={ρ:=C.ρ,n:=H0.length+1,I:=fun b=>C'.I b∧C.ρ H0.length≠some b,w:=C'.w}
 have hK:Keeps C.I D.I C.w C'.w:=fun b hb'=>⟨⟨(hx.evo.I b (.inl hb')).1,fun e=>(hw.own b ⟨_,_,hH,rfl,e⟩).1 hb'⟩,(hx.evo.I b (.inl hb')).2⟩;have hevo:Evo C D:=⟨by rw [hn];exact Af _,fun _ _=>rfl,hK,hx.evo.sz⟩
 have hcase:∀ {i oo},(H'++ [SObj.row t xs])[i]?=some oo->(i<H0.length∧H'[i]?=some oo)∨(i=H0.length∧oo= .row t xs):=fun {i oo} hi=>by
  rcases AI i H'.length with h1|h1
  . rw [Ai h1] at hi;exact .inl ⟨by omega,hi⟩
  rw [Ao h1] at hi;have:i-H'.length=0:=by have:=(Ag.1 hi).1;simpa using this
  rw [this] at hi;exact .inr ⟨by omega,by simpa using hi.symm⟩
 have hlast:∀b,C.ρ H0.length=some b->C'.I b:=fun b hb'=>(hx.evo.I b (.inr hb')).1;have hownD:∀b,OwnB D (H'++ [.row t xs]) b->OwnB C' H' b∨C.ρ H0.length=some b:=by
  rintro b ⟨i,oo,ho,hlv,hbb⟩;rcases hcase ho with ⟨h1,h2⟩ | ⟨rfl,_⟩
  . exact .inl ⟨i,oo,h2,hlv,(hρ i h1).trans hbb⟩
  exact .inr hbb
 refine ⟨.ret s,_,D,⟨rfl,rfl⟩,rfl,⟨?_,fun i oo ho=> ?_,fun b hb'=> ?_,fun i j oo oo' b ho ho' hlv hlv' h1 h2=> ?_,fun b hb'=>hw'.imm b hb'.1⟩,
  ⟨hevo,hx.size,hx.os,hx.tape,hx.output,fun b h1 h2=>hx.frame b h1 fun hq=>h2 (hown0 b hq).1,fun b hb'=> ?_,fun b hb'=> ?_,fun n _ hn'=> ?_⟩,v,rfl,z3M hs hd⟩
 . show H0.length+1=_;simp [hl]
 . rcases hcase ho with ⟨h1,h2⟩ | ⟨rfl,rfl⟩
   . exact z3s (C:=C') (C':=D) (z4g hb1 h2) (hρ i h1).symm (fun _ _ _=>rfl) (hw'.obj i oo h2)
   exact q0E (C':=D) hK _ rfl (fun b hb'=>(hx.evo.I b (.inr hb')).2) (q0h hevo) (hw.obj _ _ hH)
 . rcases hownD b hb' with h1|h1
   . exact ⟨fun h=>(hw'.own b h1).1 h.1,(hw'.own b h1).2⟩
   exact ⟨fun h=>h.2 h1,hw'.imm b (hlast b h1)⟩
 . rcases hcase ho with ⟨g1,g2⟩ | ⟨rfl,rfl⟩ <;>rcases hcase ho' with ⟨g1',g2'⟩ | ⟨rfl,rfl⟩
   . exact hw'.inj i j oo oo' b g2 g2' hlv hlv' ((hρ i g1).trans h1) ((hρ j g1').trans h2)
   . exact absurd (hlast b h2) (hw'.own b ⟨i,oo,g2,hlv,(hρ i g1).trans h1⟩).1
   . exact absurd (hlast b h1) (hw'.own b ⟨j,oo',g2',hlv',(hρ j g1').trans h2⟩).1
   rfl
 . rcases hx.immNew b hb'.1 with (q|q) | ⟨q|q,u⟩
   . exact .inl q
   . exact absurd q hb'.2
   . exact .inr ⟨.inl q,u⟩
   exact .inr ⟨.inr (hown0 b q).1,u⟩
 . rcases hownD b hb' with h1|h1
   . exact orMap (hx.ownNew b h1) id fun q=>(hown0 b q).1
   exact .inr ⟨_,_,hH,rfl,h1⟩
 exfalso;cases H0 with
 |nil=>simp at hn'
 |cons o l=>simp at hn';subst hn';simp [SObj.bare] at hb0
def z2K{args':List SV}{H0 H1:List SObj}(hp:PE P f args' H0 (.ret s) H1)(hl:H1.length=H0.length)(hb0:H0.all SObj.bare=true)(hb1:H1.all SObj.bare=true)(hs:s.bare=true)
 (hlen:xs.length<=1125899906842624)(hb:BorL H0.length t xs args args'):PE P f args (H0++ [.row t xs]) (.ret s) (H1++ [.row t xs]):=⟨hp.1,q8N hp.2 hl hb0 hb1 hs hlen hb⟩
theorem q6A{args':List SV}(hp:PC P f args' s)(hs:s.bare=true)(hlen:xs.length<=1125899906842624)(hb:BorL 0 t xs args args'):PE P f args [.row t xs] (.ret s) [.row t xs]:=
 ⟨hp.1,q8N (H0:=[]) (H1:=[]) (hp.2 [] _ ⟨rfl,rfl⟩) rfl rfl rfl hs hlen hb⟩
variable {α:Type}
theorem z6n(x:α):Option.getD (none:Option α) x=x:=rfl
theorem z5L(x y:α):Option.getD (some y) x=y:=rfl
def j2E{x y:t.den}:SV.leA (.dat t x) (.dat t y)=(x=y):=by simp [SV.leA]
def z9g{t':Ty}{k h' i' k':Nat}:SV.leA (.rptr h t i k) (.rptr h' t' i' k')=(h=h'∧t=t'∧i=i'∧k=k'):=by simp [SV.leA]
attribute [go_sem] z6n z5L j2E z9g

variable {P:Program} {AQ:Ex->List SV->List SObj->Prop} {k0:Nat} {k:List It} {t:List SV} {H:List SObj}

@[reducible] def frzN(q:Nat->Prop)(w0:World)(N:Nat):Ghost where
 inv0:=fun E C H=>(E.C.w.heap.size<=N∧∀b,TBlk b->b<N)∧ZInv q w0 C H
 fin:=fun E C H ds=>ds=E.base∧TabE E.toEn C H∧True
 toFin0:=fun ht _=>⟨rfl,ht,trivial⟩
 next0:=fun {E _ _ _ _} hx h=>⟨h.1,(frzG q w0).next0 (E:=E) hx h.2⟩
 same0:=fun {E _ _ _ _} hw e hk hi ho hm hl h=>⟨h.1,(frzG q w0).same0 (E:=E) hw e hk hi ho hm hl h.2⟩

def q6q{Q Q':Exit->Act->World->Prop}(hq:∀e a w,Q e a w->Q' e a w)(h:LetsOut Q):LetsOut Q':=by obtain ⟨a,w,h⟩:=h;exact ⟨a,w,hq _ _ _ h⟩
variable {w:World}
theorem z5u{F:Fence}{n:Nat}{o:Oper}{a:Act}{K K':Act->World->Prop}{Q Q':Exit->Act->World->Prop}(h:∀a w,K a w->K' a w)(hq:∀e a w,Q e a w->Q' e a w)
 (hh:o.wpIn F n P a w K Q):o.wpIn F n P a w K' Q':=by
 unfold Oper.wpIn at*;refine ⟨hh.1,?_⟩;have hh:=hh.2;generalize (o.semAt F.round a.eval).run P w=r at*;cases r with
 |ok x w'=>
  cases x<;>simp only [Oper.uponIn] at hh⊢ <;>
   first
    |exact h _ _ hh
    |exact ⟨hh.1,CallsIn.mono hh.2 (fun e w'' he=>by cases e<;>first|exact h _ _ he|exact hq _ _ _ he|exact q6q hq he)⟩
    |exact ⟨hh.1,RowsIn.mono hh.2 (fun _ _ he=>h _ _ he)⟩
    |exact ⟨hh.1,RoundIn.mono hh.2 (fun e w'' he=>by cases e<;>first|exact h _ _ he|exact hq _ _ _ he|exact q6q hq he)⟩
 |halt x w'=>cases x<;>simp only [Oper.uponIn] at hh⊢ <;>first|exact hq _ _ _ hh|exact hh
theorem q4X{F:Fence}{n:Nat}{all:Array Oper}{Q Q':Exit->Act->World->Prop}(hq:∀e a w,Q e a w->Q' e a w):∀ (l:List Nat) (a:Act) (w:World),wpOpsIn F n P all Q l a w->wpOpsIn F n P all Q' l a w
 | [],a,w,h=>hq _ _ _ h
 |i :: l,a,w,h=>by
  unfold wpOpsIn at h⊢;split
  . rename_i ho;simp only [ho] at h;exact q4X hq l a w h
  rename_i o ho;simp only [ho] at h;split
  . rename_i hw;rw [if_pos hw] at h;exact z5u (fun a w h=>q4X hq l a w h) hq h
  rename_i hw;rw [if_neg hw] at h;exact ⟨h.1,q4X hq l _ w h.2⟩

def noStop:List It->Bool
 | []=>true
 |.code _ :: k=>noStop k
 |.ops _ _ :: k=>noStop k
 |.blk _ :: k=>noStop k
 |_ :: _=>false
theorem q2Z{G G':Ghost}{F:Fence}{n:Nat}{E E':EnD}{Q Q':Exit->Act->World->Prop}(hq:∀e a w,Q' e a w->Q e a w):∀ (k:List It),noStop k=true->
 (∀a w, @wpT G' F n P E' Q' k a w-> @wpT G F n P E Q k a w)∧(∀id a w, @exitT G' F n P E' Q' id k a w-> @exitT G F n P E Q id k a w)
 | [],_=>⟨fun a w h=>by simp only [wpT] at h⊢;exact hq _ _ _ h,fun id a w h=>by simp only [exitT] at h⊢;exact hq _ _ _ h⟩
 |.code c :: k,hs=>by
  obtain ⟨h1,h2⟩:=q2Z (G:=G) (G':=G') (F:=F) (n:=n) (E:=E) (E':=E') hq k hs;refine ⟨fun a w h=> ?_,fun id a w h=>by simp only [exitT] at h⊢;exact h2 id a w h⟩;simp only [wpT] at h⊢;refine wpIn_mono h fun e a w hh=> ?_;cases e with
  |normal=>exact h1 a w hh
  |exit id=>exact h2 id a w hh
  |_=>exact hq _ _ _ hh
 |.ops all l :: k,hs=>by
  obtain ⟨h1,h2⟩:=q2Z (G:=G) (G':=G') (F:=F) (n:=n) (E:=E) (E':=E') hq k hs;refine ⟨fun a w h=> ?_,fun id a w h=>by simp only [exitT] at h⊢;exact h2 id a w h⟩;simp only [wpT] at h⊢;refine q4X (fun e a w hh=> ?_) l a w h;cases e with
  |normal=>exact h1 a w hh
  |exit id=>exact h2 id a w hh
  |_=>exact hq _ _ _ hh
 |.blk id' :: k,hs=>by
  obtain ⟨h1,h2⟩:=q2Z (G:=G) (G':=G') (F:=F) (n:=n) (E:=E) (E':=E') hq k hs;refine ⟨fun a w h=>by simp only [wpT] at h⊢;exact h1 a w h,fun id a w h=> ?_⟩;simp only [exitT] at h⊢;split
  . rw [if_pos (by assumption)] at h;exact h1 a w h
  rw [if_neg (by assumption)] at h;exact h2 id a w h
variable {td:List IT}
def noStopI:List IT->Bool
 | []=>true
 |.ic _ :: k=>noStopI k
 |.ops _ :: k=>noStopI k
 |.blk _ :: k=>noStopI k
 |_ :: _=>false
def q3r:∀ {td:List IT} {r:List It},RelT P td r->noStopI td=true->noStop r=true
 | [],r,h,_=>by cases h;rfl
 |.ic c :: k,r,h,hs=>by obtain ⟨c',r',rfl,_,hr⟩:=h;exact (q3r (td:=k) (r:=r') hr hs:noStop r'=true)
 |.ops l :: k,r,h,hs=>by obtain ⟨all,idx,r',rfl,_,hr⟩:=h;exact (q3r (td:=k) (r:=r') hr hs:noStop r'=true)
 |.blk id :: k,r,h,hs=>by obtain ⟨r',rfl,hr⟩:=h;exact (q3r (td:=k) (r:=r') hr hs:noStop r'=true)

variable {P:Program} {AQ:Ex->List SV->List SObj->Prop} {k0:Nat} {k:List It} {t:List SV} {H:List SObj}

def far:Obj->Prop
 |.loop _=>True
 |.deferred _=>True
 |_=>False
def FarAt(w:World)(b:Nat):Prop:=∃o,w.heap[b]?=some o∧far o
def Perm(E:En)(b:Nat):Prop:=E.C.w.heap.size<=b∨OwnB E.C E.H b
variable {b:Nat}
def z4U(hw:Wd C H)(h:OwnB C H b):¬FarAt C.w b:=by
 obtain ⟨i,o,ho,hl,hb⟩:=h;have:=hw.obj i o ho;rintro ⟨x,hx,hf⟩;cases o with
 |dead=>simp [SObj.live] at hl
 |mark n=>simp [SObj.live] at hl
 |cells T cs=>obtain ⟨b',vs,h1,h2,_⟩:=this;rw [hb] at h1;cases h1;rw [hx] at h2;cases h2;exact hf
 |row t xs=>
  rcases this with ⟨h1,_⟩ | ⟨b',arr,T',fz',h1,h2,h3,_⟩
  . rw [hb] at h1;cases h1
  rw [hb] at h1;cases h1;rw [hx] at h2;cases h2;exact hf
 |map kk ks vs=>obtain ⟨b',us,h1,⟨es,cl,h2,_⟩,_⟩:=this;rw [hb] at h1;cases h1;rw [hx] at h2;cases h2;exact hf
theorem z7y(h:FarAt w b):World.bsize w b=none:=by obtain ⟨o,ho,hf⟩:=h;unfold World.bsize;rw [ho];cases o<;>first|rfl|exact hf.elim

def unmk:SObj->SObj
 |.mark _=>.dead
 |o=>o
def z5Z:(unmk o).live=true ↔ o.live=true:=by cases o<;>simp [unmk,SObj.live]
theorem j3E(h:o.live=true):unmk o=o:=by cases o<;>first|rfl|simp [SObj.live] at h
open Classical in
noncomputable def rowOf(S:Nat->Prop)(b:Nat):Option Nat:=if S b then some b else none
noncomputable def startE(um:Bool)(S:Nat->Prop)(C:Cx)(H:List SObj):EnD:=
 {C:={C with ρ:=fun h=>if h<C.n then C.ρ h else rowOf S (h-C.n)},H:=(if um then H.map unmk else H)++List.replicate C.w.heap.size (.row .u8 []),base:=[]}
variable {um:Bool}{S:Nat->Prop}
theorem q0N(hn:C.n=H.length):OwnB (startE um S C H).C (startE um S C H).H b ↔ OwnB C H b∨(S b∧b<C.w.heap.size):=by
 have hlen:(if um then H.map unmk else H).length=H.length:=by cases um<;>simp
 constructor
 . rintro ⟨h,o,ho,hl,hb⟩;simp only [startE] at ho hb;rcases AI h H.length with hh|hh
   . rw [Ai (by rw [hlen];exact hh)] at ho;rw [if_pos (by omega)] at hb;cases um
     . exact .inl ⟨h,o,ho,hl,hb⟩
     simp only [if_true,AF,Ap] at ho;obtain ⟨o',ho',rfl⟩:=ho;exact .inl ⟨h,o',ho',z5Z.1 hl,hb⟩
   rw [Ao (by rw [hlen];exact hh),hlen] at ho;rw [if_neg (by omega)] at hb;have h1:=(Ag.1 ho).1;rw [BM] at h1;unfold rowOf at hb;split at hb
   . rename_i hS;cases hb;rw [hn];exact .inr ⟨hn▸hS,h1⟩
   cases hb
 rintro (⟨h,o,ho,hl,hb⟩ | ⟨hS,hb⟩)
 . have hh:=(Ag.1 ho).1;refine ⟨h,o,?_,hl,?_⟩
   . simp only [startE];rw [Ai (by rw [hlen];exact hh)];cases um
     . exact ho
     simp only [if_true,AF,ho,Bz,j3E hl]
   simp only [startE];rw [if_pos (by omega)];exact hb
 refine ⟨H.length+b,.row .u8 [],?_,rfl,?_⟩
 . simp only [startE];rw [Ao (by rw [hlen];omega),hlen,Cs,Ct,if_pos hb]
 simp only [startE];rw [if_neg (by omega),hn,Cs];unfold rowOf;rw [if_pos hS]
def q4B{m:Nat}(h0:0<H.length)(h:(startE um S C H).H[0]?=some (.mark m)):um=false∧H[0]?=some (.mark m):=by
 simp only [startE] at h;rw [Ai (by cases um<;>simpa using h0)] at h;cases um
 . exact ⟨rfl,h⟩
 simp only [if_true,AF,Ap] at h;obtain ⟨o,_,ho⟩:=h;cases o<;>simp [unmk] at ho
def q3V(hn:C.n=H.length):Ext (startE um S C H) C H:=
 ⟨⟨Af _,fun h hh=>(if_pos (show h<C.n from hh)).symm,Keeps.refl _ _,fun _ _ h=>h⟩,Af _,rfl,rfl,rfl,fun _ _ _=>rfl,fun _ h=>.inl h,fun b hb=>.inr ((q0N hn).2 (.inl hb)),
  fun m h0 hm=>(q4B (show 0<H.length by have:0<C.n:=h0;omega) hm).2⟩
theorem q5x(hn:C.n=H.length)(h:TabT C H)(hS:∀b,S b->¬TBlk b):TabT (startE um S C H).C (startE um S C H).H:=
 h.keep (Keeps.refl _ _) fun b hT hb ho=>⟨hb,fun x=>((q0N hn).1 x).elim ho fun y=>hS b y.1 hT,rfl⟩
def q3f(h:Evo (startE um S C H).C C'):Evo C C':=
 ⟨h.n,fun x hx=>(h.ρ x hx).trans (if_pos hx),h.I,h.sz⟩
variable {E:En}{H':List SObj}
def q7K(hw:Wd C H)(hx:Ext E C H)(hS:∀b,S b->Perm E b)(hu:um=true->∀n,E.H[0]?≠some (.mark n))(k:Ext (startE um S C H) C' H'):Ext E C' H':=by
 have hown:∀b,OwnB (startE um S C H).C (startE um S C H).H b->Perm E b:=fun b hb=>((q0N hw.n).1 hb).elim (hx.ownNew b) fun h=>hS b h.1;refine ⟨hx.evo.trans (q3f k.evo),As hx.size k.size,k.os.trans hx.os,k.tape.trans hx.tape,k.output.trans hx.output,fun b h1 h2=> ?_,fun b hb=> ?_,fun b hb=> ?_,fun m h0 hm=> ?_⟩
 . exact (k.frame b (An h1 hx.size) fun ho=>(hown b ho).elim (fun x=>absurd h1 (AT.2 x)) h2).trans (hx.frame b h1 h2)
 . rcases k.immNew b hb with g| ⟨g,u⟩
   . exact orMap (hx.immNew b g) id fun ⟨x,u⟩=>⟨x,u.keep (k.evo.I b g).2⟩
   exact .inr ⟨g.elim (fun x=>.inl (As hx.size x)) (hown b),u⟩
 . exact (k.ownNew b hb).elim (fun x=>.inl (As hx.size x)) (hown b)
 have h1:=hx.keep0 m h0 hm;have hn:=hw.n;have hlt:0<C.n:=An h0 hx.evo.n;cases um with
 |true=>exact absurd hm (hu rfl m)
 |false=>refine k.keep0 m hlt ?_;simp only [startE];rw [Ai (by simpa using (show 0<H.length by omega))];exact h1

structure FG where
 um:Bool
 core:EnD->Cx->List SObj->(Nat->Prop)->Prop
 next:∀ {E C C' H H' S},Ext ⟨C,H⟩ C' H'->core E C H S->core E C' H' S
 own:∀ {E C C' H H' S},Wd C H->C'.w=C.w->(∀b,C.I b->C'.I b)->(∀b,C'.I b->C.I b∨OwnB C H b)->(∀b,OwnB C' H' b->OwnB C H b∨(E.C.w.heap.size<=b∧¬S b))->(∀n,0<E.C.n->H[0]?=some (.mark n)->H'[0]?=some (.mark n))->E.C.n<=C'.n->core E C H S->core E C' H' S
 perm:∀ {E C H S b},core E C H S->S b->Perm E.toEn b∧¬C.I b∧¬OwnB C H b∧b<C.w.heap.size
 abide:∀ {E C H S w' I'},core E C H S->C.w.heap.size<=w'.heap.size->(∀b,b<C.w.heap.size->(b<E.C.w.heap.size∨S b∨C.I b∨OwnB C H b)->w'.heap[b]?=C.w.heap[b]?)->(∀b,C.I b->w'.heap[b]?=C.w.heap[b]?)->w'.os=C.w.os->w'.tape=C.w.tape->w'.output=C.w.output->
  (∀b m,World.bsize C.w b=some m->World.bsize w' b=some m)->(∀b,C.I b->I' b)->(∀b,I' b->C.I b∨(E.C.w.heap.size<=b∧¬S b∧¬OwnB C H b∧Unf w' b))->core E {C with w:=w',I:=I'} H S
 lo:∀ {E C H S b},core E C H S->S b->FarAt C.w b->b<E.C.w.heap.size
 start:∀ {E C H S},Wd C H->core E C H S->core (startE um S C H) C H S
 back:∀ {E C H S C' H' S'},Wd C H->core E C H S->Ext (startE um S C H) C' H'->core (startE um S C H) C' H' S'->core E C' H' S'
 unm:∀ {E C H S},um=true->core E C H S->∀n,E.H[0]?≠some (.mark n)
 base:∀ {E C H S} (ds:List Deferred),core E C H S->core {E with base:=ds} C H S
 nt:∀ {E C H S b},core E C H S->S b->¬TBlk b

def noFG:FG where
 um:=false
 core:=fun _ _ _ S=>∀b,¬S b
 next:=fun _ h=>h
 own:=fun _ _ _ _ _ _ _ h=>h
 perm:=fun h hS=>absurd hS (h _)
 abide:=fun h _ _ _ _ _ _ _ _ _=>h
 lo:=fun h hS=>absurd hS (h _)
 start:=fun _ h=>h
 back:=fun _ _ _ h=>h
 unm:=fun h=>by cases h
 base:=fun _ h=>h
 nt:=fun h hS=>absurd hS (h _)

def chgC(C:Cx)(b:Nat)(o:Obj):Cx:={C with w:={C.w with heap:=C.w.heap.setIfInBounds b o}}
variable {D:Nat}{o:Obj}
def q1d(h:b≠D):(chgC C D o).w.heap[b]?=C.w.heap[b]?:=by simp only [chgC];rw [BY (Ne.symm h)]
def j3c{x:Obj}(h:C.w.heap[D]?=some x):(chgC C D o).w.heap[D]?=some o:=by simp only [chgC];rw [Array.getElem?_setIfInBounds_self_of_lt (AE.1 h).1]
def q3D:(chgC C D o).w.heap.size=C.w.heap.size:=by simp [chgC]
def q9u(h:FarAt C.w D)(b m:Nat)(hm:World.bsize C.w b=some m):World.bsize (chgC C D o).w b=some m:=by
 by_cases e:b=D
 . subst e;rw [z7y h] at hm;cases hm
 unfold World.bsize at hm⊢;rw [q1d e];exact hm
def FG.chg(g:FG){E:EnD}{C:Cx}{S:Nat->Prop}{D:Nat}{o:Obj}(hc:g.core E C H S)(h1:E.C.w.heap.size<=D)(h2:¬C.I D)(h3:¬OwnB C H D)(h4:FarAt C.w D):g.core E (chgC C D o) H S:=by
 refine g.abide (w':=(chgC C D o).w) (I':=C.I) hc (by rw [q3D];exact Af _) (fun b _ hb=>q1d fun e=> ?_) (fun b hb=>q1d fun e=>h2 (e▸hb)) rfl rfl rfl (q9u h4) (fun _ h=>h) (fun _ h=>.inl h);subst e;rcases hb with hb|hb|hb|hb
 . exact absurd hb (AT.2 h1)
 . exact absurd (g.lo hc hb h4) (AT.2 h1)
 . exact h2 hb
 exact h3 hb

def MarkOk.far{E:En}{C:Cx}{D:Nat}(h:MarkOk E C H D):FarAt C.w D:=⟨_,h.at_,trivial⟩
theorem MarkOk.next{E:En}{C C':Cx}{H':List SObj}{D:Nat}(hx:Ext ⟨C,H⟩ C' H')(h:MarkOk E C H D):MarkOk E C' H' D:=by
 have hlt:D<C.w.heap.size:=(AE.1 h.at_).1;refine ⟨h.sz,fun hi=> ?_,fun ho=> ?_,(hx.frame D hlt h.own).trans h.at_⟩
 . exact (hx.immNew D hi).elim h.imm fun ⟨x,_⟩=>x.elim (fun x=>absurd hlt (AT.2 x)) h.own
 exact (hx.ownNew D ho).elim (fun x=>absurd hlt (AT.2 x)) h.own
def MarkOk.same{E:En}{C C':Cx}{H':List SObj}{D:Nat}(e:C'.w=C.w)(hi:∀b,C'.I b->C.I b∨OwnB C H b)(ho:∀b,OwnB C' H' b->OwnB C H b)(h:MarkOk E C H D):MarkOk E C' H' D:=
 ⟨h.sz,fun x=>(hi D x).elim h.imm h.own,fun x=>h.own (ho D x),by rw [e];exact h.at_⟩

@[reducible] def fgG(g:FG):Ghost where
 inv0:=fun E C H=>∃S,g.core E C H S
 fin:=fun E C H ds=>ds=E.base∧∃S,g.core E C H S
 toFin0:=fun _ h=>⟨rfl,h⟩
 next0:=fun hx ⟨S,h⟩=>⟨S,g.next hx h⟩
 same0:=fun hw e hk hi ho hm hl ⟨S,h⟩=>⟨S,g.own hw e hk hi (fun b hb=>.inl (ho b hb)) hm hl h⟩

variable {P:Program} {AQ:Ex->List SV->List SObj->Prop} {k0:Nat} {k:List It} {t:List SV} {H:List SObj}

@[reducible] def topG(g:FG)(Ds:List Nat):Ghost where
 inv0:=fun E C H=>(∃S,g.core E C H S)∧Ds.Nodup∧∀D∈Ds,MarkOk E.toEn C H D
 fin:=fun E C H ds=>∃Ds':List Nat,ds=Ds'.map markD++E.base∧(∃S,g.core E C H S)∧(Ds'++Ds).Nodup∧∀D∈Ds'++Ds,MarkOk E.toEn C H D
 toFin0:=fun _ h=>⟨[],rfl,h.1,by simpa using h.2.1,by simpa using h.2.2⟩
 next0:=fun hx h=>⟨(fgG g).next0 hx h.1,h.2.1,fun D hD=>(h.2.2 D hD).next hx⟩
 same0:=fun hw e hk hi ho hm hl h=>⟨(fgG g).same0 hw e hk hi ho hm hl h.1,h.2.1,fun D hD=>(h.2.2 D hD).same e hi ho⟩
 rd:=fun r=>r=none
 rd0:=rfl

def Pins(L:List (Nat×Obj))(C:Cx)(H:List SObj)(S:Nat->Prop):Prop:=∀x∈L,¬C.I x.1∧¬OwnB C H x.1∧¬S x.1∧C.w.heap[x.1]?=some x.2∧far x.2
theorem Pins.next{L:List (Nat×Obj)}{S:Nat->Prop}{C C':Cx}{H':List SObj}(hx:Ext ⟨C,H⟩ C' H')(h:Pins L C H S):Pins L C' H' S:=fun x hxL=>by
 obtain ⟨h1,h2,hS,h3,h4⟩:=h x hxL;have hlt:x.1<C.w.heap.size:=(AE.1 h3).1;refine ⟨fun hi=> ?_,fun ho=> ?_,hS,(hx.frame _ hlt h2).trans h3,h4⟩
 . exact (hx.immNew _ hi).elim h1 fun ⟨y,_⟩=>y.elim (fun y=>absurd hlt (AT.2 y)) h2
 exact (hx.ownNew _ ho).elim (fun y=>absurd hlt (AT.2 y)) h2
def Pins.same{L:List (Nat×Obj)}{S:Nat->Prop}{C C':Cx}{H':List SObj}(e:C'.w=C.w)(hi:∀b,C'.I b->C.I b∨OwnB C H b)(ho:∀b,OwnB C' H' b->OwnB C H b)(h:Pins L C H S):Pins L C' H' S:=fun x hxL=>by obtain ⟨h1,h2,hS,h3,h4⟩:=h x hxL;exact ⟨fun y=>(hi _ y).elim h1 h2,fun y=>h2 (ho _ y),hS,by rw [e];exact h3,h4⟩
@[reducible] def pinG(g:FG)(L:List (Nat×Obj)):Ghost where
 inv0:=fun E C H=>∃S,g.core E C H S∧Pins L C H S
 fin:=fun E C H ds=>ds=E.base∧∃S,g.core E C H S∧Pins L C H S
 toFin0:=fun _ h=>⟨rfl,h⟩
 next0:=fun hx ⟨S,h⟩=>⟨S,g.next hx h.1,h.2.next hx⟩
 same0:=fun hw e hk hi ho hm hl ⟨S,h⟩=>⟨S,g.own hw e hk hi (fun b hb=>.inl (ho b hb)) hm hl h.1,h.2.same e hi ho⟩

def z2x{D':Nat}(h:MarkOk E C H D')(hne:D'≠D):MarkOk E (dropD C D) H D':=⟨h.sz,h.imm,h.own,(q1E hne).trans h.at_⟩
def q8A(g:FG){E:EnD}{S:Nat->Prop}:∀ (Ds:List Nat) {C:Cx},g.core E C H S->Ds.Nodup->(∀D∈Ds,MarkOk E.toEn C H D)->g.core E (Ds.foldl dropD C) H S
 | [],_,h,_,_=>h
 |D :: Ds,C,h,hnd,hok=>by have hD:=hok D (by simp);exact q8A g Ds (C:=dropD C D) (g.chg (o:=.deferred none) h hD.sz hD.imm hD.own hD.far) (BK.1 hnd).2 fun D' hD'=>z2x (hok D' (by simp [hD'])) fun e=>(BK.1 hnd).1 (e▸hD')

theorem z6d(g:FG){f:FuncId}{fn:Func}{c:Code}{args:List SV}{K:Out->List SObj->Prop}(hf:P.funcs[f]?=some fn)(hb:fn.body=some c)
 (h: @Sound (topG g []) P (retQ P fn K) ⟨H.length,[.code c],args++List.replicate (fn.ntmps-args.length) .any,H⟩): @VCallG (fgG g) P f args H K:=by
 rintro E C vs hw ⟨ht,S,hc⟩ hv
 refine (@q4x (topG g []) P H f fn c args K (startE g.um S C H) C vs hf hb rfl (by show C.n<=_;rw [hw.n];exact Af _) hw (q3V hw.n) ⟨⟨ht.tab,ht.tab.lt⟩,⟨S,g.start hw hc⟩,Dh,fun _ h=>by simp at h⟩
  (fun C' H'=>∃S',g.core (startE g.um S C H) C' H' S') ?_ hv h).mono ?_
 . rintro C' H' ds hw' hx' ⟨Ds',e,⟨S',hc'⟩,hnd,hok⟩;rw [Ah] at hnd hok;exact ⟨Ds',by rw [e];exact Ah _,hnd,hok,S',q8A g Ds' hc' hnd hok⟩
 rintro e w' ⟨o,H',C',k1,k2,k3,k4,⟨S',k5⟩,k6⟩;exact ⟨o,H',C',k1,k2,k3, @Stp.mk (fgG g) E C H C' H' (q3f k4.evo) (fun k=>q7K hw k (fun b hb=>(g.perm hc hb).1) (fun hu=>g.unm hu hc) k4) (fun hx0=>⟨⟨(q5x hw.n hx0.1.tab fun b hb=>g.nt hc hb).next k4,hx0.1.old⟩,S',g.back hw hc k4 k5⟩),k6⟩
variable {K:Out->List SObj->Prop}
theorem q1C(g:FG){fi:FI}(h:finfo P f=some fi)
 (hs: @SoundI (topG g []) P (retF P fi.results K) ⟨H.length,[.ic fi.code],args++List.replicate (fi.ntmps-args.length) .any,H⟩): @VCG (fgG g) P f args H K:=by
 obtain ⟨fn,c,hf,hb,hc,h1,h2,hen⟩:=j1U h;have hq:retQ P fn K=retF P fi.results K:=by rw [<-h2];funext e t H;cases e<;>rfl
 refine ⟨hen, @z6d P H g f fn c args K hf hb ?_⟩;rw [hq,h1];exact @q0g (topG g []) P (retF P fi.results K) _ _ _ _ _ hs ⟨c,[],rfl,hc,rfl⟩
def q3O(h: @VCG (fgG noFG) P f args H K):VC P f args H K:=
 ⟨h.1,fun C vs hw ht hv=>(h.2 ⟨⟨C,H⟩,[]⟩ C vs hw ⟨ht.here,fun _=>False,fun _ h=>h⟩ hv).mono fun _ _ ⟨o,H',C',k1,k2,k3,k4,k5⟩=>⟨o,H',C',k1,k2,k3, @Stp.ext (fgG noFG) _ _ _ _ _ k4 (Ext.refl _ _),k5⟩⟩

structure FJ (B:Nat) (J:Nat->(Nat->Prop)->World->(Nat->Prop)->Prop):Prop where
 abide:∀ {m S w I w' I'},J m S w I->w.heap.size<=w'.heap.size->(∀b,b<w.heap.size->(b<B∨S b∨I b)->w'.heap[b]?=w.heap[b]?)->(∀b,I b->w'.heap[b]?=w.heap[b]?)->w'.os=w.os->w'.tape=w.tape->w'.output=w.output->
  (∀b m,World.bsize w b=some m->World.bsize w' b=some m)->(∀b,I b->I' b)->(∀b,I' b->I b∨(B<=b∧¬S b∧Unf w' b))->J m S w' I'
 fp:∀ {m S w I b},J m S w I->S b->¬I b∧b<w.heap.size
 nt:∀ {m S w I b},J m S w I->S b->¬TBlk b
structure YCore (B:Nat) (J:Nat->(Nat->Prop)->World->(Nat->Prop)->Prop) (E:EnD) (C:Cx) (H:List SObj) (S:Nat->Prop):Prop where
 pos:0<E.C.n
 n:E.C.n<=C.n
 unm:∀n,E.H[0]?≠some (.mark n)
 lo:B<=E.C.w.heap.size
 sz:E.C.w.heap.size<=C.w.heap.size
 own:∀b,OwnB C H b->Perm E.toEn b∧B<=b
 st:∃m,H[0]?=some (.mark m)∧J m S C.w C.I
 fp:∀b,S b->Perm E.toEn b∧¬OwnB C H b
 far:∀ {m S w I b},J m S w I->S b->FarAt w b->b<E.C.w.heap.size
variable {B:Nat}{J:Nat->(Nat->Prop)->World->(Nat->Prop)->Prop}
def yFG(hJ:FJ B J):FG where
 um:=true
 core:=YCore B J
 next:=fun {E C C' H H' S} hx h=>by
  obtain ⟨m,h1,h2⟩:=h.st;have hS:∀b,S b->¬C.I b∧b<C.w.heap.size:=fun b hb=>hJ.fp h2 hb;refine ⟨h.pos,As h.n hx.evo.n,h.unm,h.lo,As h.sz hx.size,fun b hb=> ?_,⟨m,hx.keep0 m (An h.pos h.n) h1,?_⟩,fun b hb=>⟨(h.fp b hb).1,fun ho=> ?_⟩,h.far⟩
  . rcases hx.ownNew b hb with x|x
    . exact ⟨.inl (As h.sz x),As h.lo (As h.sz x)⟩
    exact h.own b x
  . refine hJ.abide h2 hx.size (fun b hb h3=> ?_) (fun b hb=>(hx.evo.I b hb).2) hx.os hx.tape hx.output hx.evo.sz (fun b hb=>(hx.evo.I b hb).1) fun b hb=> ?_
    . rcases h3 with h3|h3|h3
      . exact hx.frame b hb fun ho=>absurd h3 (AT.2 (h.own b ho).2)
      . exact hx.frame b hb fun ho=>(h.fp b h3).2 ho
      exact (hx.evo.I b h3).2
    rcases hx.immNew b hb with x| ⟨x|x,u⟩
    . exact .inl x
    . exact .inr ⟨As h.lo (As h.sz x),fun hs=>absurd (hS b hs).2 (AT.2 x),u⟩
    exact .inr ⟨(h.own b x).2,fun hs=>(h.fp b hs).2 x,u⟩
  rcases hx.ownNew b ho with x|x
  . exact absurd (hS b hb).2 (AT.2 x)
  exact (h.fp b hb).2 x
 own:=fun {E C C' H H' S} hw e hk hi ho hm hl h=>by
  obtain ⟨m,h1,h2⟩:=h.st;refine ⟨h.pos,hl,h.unm,h.lo,by rw [e];exact h.sz,fun b hb=> ?_,⟨m,hm m h.pos h1,?_⟩,fun b hb=>⟨(h.fp b hb).1,fun h3=> ?_⟩,h.far⟩
  . rcases ho b hb with x| ⟨x,_⟩
    . exact h.own b x
    exact ⟨.inl x,As h.lo x⟩
  . rw [e];refine hJ.abide h2 (Af _) (fun _ _ _=>rfl) (fun _ _=>rfl) rfl rfl rfl (fun _ _ h=>h) hk fun b hb=>orMap (hi b hb) id fun x=>⟨(h.own b x).2,fun hs=>(h.fp b hs).2 x,q4y hw x⟩
  exact (ho b h3).elim (h.fp b hb).2 fun x=>x.2 hb
 perm:=fun {E C H S b} h hS=>by obtain ⟨m,h1,h2⟩:=h.st;exact ⟨(h.fp b hS).1,(hJ.fp h2 hS).1,(h.fp b hS).2,(hJ.fp h2 hS).2⟩
 abide:=fun {E C H S w' I'} h hs hf hkI h1 h2 h3 hz hI hI'=>by
  obtain ⟨m,g1,g2⟩:=h.st;refine ⟨h.pos,h.n,h.unm,h.lo,As h.sz hs,h.own,⟨m,g1,?_⟩,h.fp,h.far⟩;refine hJ.abide g2 hs (fun b hb h4=>hf b hb ?_) hkI h1 h2 h3 hz hI fun b hb=>orMap (hI' b hb) id fun ⟨x,y,_,u⟩=>⟨As h.lo x,y,u⟩;rcases h4 with h4|h4|h4
  . exact .inl (An h4 h.lo)
  . exact .inr (.inl h4)
  exact .inr (.inr (.inl h4))
 lo:=fun {E C H S b} h hS hf=>by obtain ⟨m,g1,g2⟩:=h.st;exact h.far g2 hS hf
 start:=fun {E C H S} hw h=>by obtain ⟨m,g1,g2⟩:=h.st;have hlt:0<H.length:=(Ag.1 g1).1;refine ⟨by show 0<C.n;rw [hw.n];exact hlt,Af _,fun n hn=>(by cases (q4B hlt hn).1),As h.lo h.sz,Af _,fun b hb=>⟨.inr ((q0N hw.n).2 (.inl hb)),(h.own b hb).2⟩,⟨m,g1,g2⟩,fun b hb=>⟨.inr ((q0N hw.n).2 (.inr ⟨hb,(hJ.fp g2 hb).2⟩)),(h.fp b hb).2⟩,fun j s f=>An (h.far j s f) h.sz⟩
 back:=fun {E C H S C' H' S'} hw h hx k=>by
  have hp:∀b,Perm (startE true S C H).toEn b->Perm E.toEn b:=fun b hb=>by
   rcases hb with hb|hb
   . exact .inl (As h.sz hb)
   exact ((q0N hw.n).1 hb).elim (fun x=>(h.own b x).1) fun x=>(h.fp b x.1).1
  exact ⟨h.pos,As h.n (q3f hx.evo).n,h.unm,h.lo,As h.sz hx.size,fun b hb=>⟨hp b (k.own b hb).1,(k.own b hb).2⟩,k.st,fun b hb=>⟨hp b (k.fp b hb).1,(k.fp b hb).2⟩,h.far⟩
 unm:=fun _ h=>h.unm
 nt:=fun {E C H S b} h hS=>by obtain ⟨m,h1,h2⟩:=h.st;exact hJ.nt h2 hS
 base:=fun _ h=>⟨h.pos,h.n,h.unm,h.lo,h.sz,h.own,h.st,h.fp,h.far⟩

variable {P:Program} {AQ:Ex->List SV->List SObj->Prop} {k0:Nat} {k:List It} {t:List SV} {H:List SObj}

structure Fr (Q:Nat->Prop) (C C':Cx):Prop where
 size:C.w.heap.size<=C'.w.heap.size
 os:C'.w.os=C.w.os
 tape:C'.w.tape=C.w.tape
 output:C'.w.output=C.w.output
 keep:Keeps C.I C'.I C.w C'.w
 sz:∀b m,World.bsize C.w b=some m->World.bsize C'.w b=some m
 frame:∀b,b<C.w.heap.size->¬Q b->C'.w.heap[b]?=C.w.heap[b]?
 imm:∀b,C'.I b->C.I b∨((C.w.heap.size<=b∨Q b)∧Unf C'.w b)
def Fr.trans{Q Q':Nat->Prop}{C C' C'':Cx}(h:Fr Q C C')(k:Fr Q' C' C'')(hq:∀b,Q' b->C.w.heap.size<=b∨Q b):Fr Q C C'' where
 size:=As h.size k.size
 os:=k.os.trans h.os
 tape:=k.tape.trans h.tape
 output:=k.output.trans h.output
 keep:=h.keep.trans k.keep
 sz:=fun b m hm=>k.sz b m (h.sz b m hm)
 frame:=fun b hb hn=>(k.frame b (An hb h.size) fun h'=>(hq b h').elim (fun x=>absurd hb (AT.2 x)) hn).trans (h.frame b hb hn)
 imm:=fun b hb=>by
  rcases k.imm b hb with x| ⟨x,u⟩
  . exact orMap (h.imm b x) id fun ⟨y,u⟩=>⟨y,u.keep (k.keep b x).2⟩
  exact .inr ⟨x.elim (fun y=>.inl (As h.size y)) (hq b),u⟩
def Fr.mono{Q Q':Nat->Prop}{C C':Cx}(h:Fr Q C C')(hq:∀b,Q b->Q' b):Fr Q' C C' where
 size:=h.size
 os:=h.os
 tape:=h.tape
 output:=h.output
 keep:=h.keep
 sz:=h.sz
 frame:=fun b hb hn=>h.frame b hb fun x=>hn (hq b x)
 imm:=fun b hb=>orMap (h.imm b hb) id fun ⟨y,u⟩=>⟨orMap y id (hq b),u⟩
def z4w(hn:C.n=H.length)(k:Ext (startE um S C H) C' H'):Fr (fun b=>OwnB C H b∨S b) C C' where
 size:=k.size
 os:=k.os
 tape:=k.tape
 output:=k.output
 keep:=k.evo.I
 sz:=k.evo.sz
 frame:=fun b hb hq=>k.frame b hb fun ho=>hq (orMap ((q0N hn).1 ho) id fun x=>x.1)
 imm:=fun b hb=>orMap (k.immNew b hb) id fun ⟨y,u⟩=>⟨orMap y id fun ho=>orMap ((q0N hn).1 ho) id fun x=>x.1,u⟩
def z0u(hn:C.n=H.length)(k:Ext (startE um S C H) C' H')(hb:OwnB C' H' b):C.w.heap.size<=b∨OwnB C H b∨S b:=
 orMap (k.ownNew b hb) id fun ho=>orMap ((q0N hn).1 ho) id fun x=>x.1
def q7r(hi:¬C.I D)(hf:FarAt C.w D):Evo C (chgC C D o):=⟨Af _,fun _ _=>rfl,fun b hb=>⟨hb,q1d fun e=>hi (e▸hb)⟩,q9u hf⟩
def j1O(hi:¬C.I D)(hf:FarAt C.w D):Fr (fun b=>b=D) C (chgC C D o) where
 size:=by rw [q3D];exact Af _
 os:=rfl
 tape:=rfl
 output:=rfl
 keep:=(q7r hi hf).I
 sz:=q9u hf
 frame:=fun b _ hn=>q1d hn
 imm:=fun b hb=>.inl hb
def j5C(hw:Wd C H)(hi:¬C.I D)(ho:¬OwnB C H D)(hf:FarAt C.w D):Wd (chgC C D o) H:=
 (j6Y (w':=(chgC C D o).w) hw q3D (fun b hb=>q1d fun e=>hb.elim (e▸hi) (e▸ho)) (q9u hf)).1
def j4K(hx:Ext E C H)(hi:¬C.I D)(hf:FarAt C.w D)(hs:E.C.w.heap.size<=D):Ext E (chgC C D o) H:=
 ⟨hx.evo.trans (q7r hi hf),by rw [q3D];exact hx.size,hx.os,hx.tape,hx.output,fun b hb ho=>(q1d (by omega)).trans (hx.frame b hb ho),fun b hb=>orMap (hx.immNew b hb) id fun ⟨x,u⟩=>⟨x,u.keep (q1d fun e=>hi (e▸hb))⟩,hx.ownNew,hx.keep0⟩
structure Rnd (S:Nat->Prop) (C C':Cx) (H H':List SObj) (S':Nat->Prop):Prop where
 evo:Evo C C'
 fr:Fr (fun b=>S b∨OwnB C H b) C C'
 own:∀b,OwnB C' H' b->OwnB C H b
 fp:∀b,S' b->(C.w.heap.size<=b∨S b∨OwnB C H b)∧¬OwnB C' H' b

def j0d{E:EnD}{S':Nat->Prop}(h:YCore B J E C H S)(r:Rnd S C C' H H' S')(hm:∃m,H'[0]?=some (.mark m)∧J m S' C'.w C'.I):
 (Ext E.toEn C H->Ext E.toEn C' H')∧YCore B J E C' H' S':=by
 have hp:∀b,S b∨OwnB C H b->Perm E.toEn b:=fun b hb=>hb.elim (fun x=>(h.fp b x).1) fun x=>(h.own b x).1
 refine ⟨fun hx=>⟨hx.evo.trans r.evo,As hx.size r.fr.size,r.fr.os.trans hx.os,r.fr.tape.trans hx.tape,r.fr.output.trans hx.output,fun b h1 h2=> ?_,fun b hb=> ?_,fun b hb=>hx.ownNew b (r.own b hb),fun m _ hm=>absurd hm (h.unm m)⟩,
  ⟨h.pos,As h.n r.evo.n,h.unm,h.lo,As h.sz r.fr.size,fun b hb=>h.own b (r.own b hb),hm,fun b hb=>⟨?_,(r.fp b hb).2⟩,h.far⟩⟩
 . exact (r.fr.frame b (An h1 hx.size) fun hq=>(hp b hq).elim (fun x=>absurd h1 (AT.2 x)) h2).trans (hx.frame b h1 h2)
 . rcases r.fr.imm b hb with x| ⟨x,u⟩
   . exact orMap (hx.immNew b x) id fun ⟨y,u⟩=>⟨y,u.keep (r.fr.keep b x).2⟩
   exact .inr ⟨x.elim (fun y=>.inl (As hx.size y)) (hp b),u⟩
 rcases (r.fp b hb).1 with x|x
 . exact .inl (As h.sz x)
 exact hp b x

def j3C{S':Nat->Prop}(r:Rnd S C C' H H' S')(h:TabT C H)(hS:∀b,S b->¬TBlk b):TabT C' H':=
 h.keep r.evo.I fun b hT hb ho=>⟨An hb r.fr.size,fun x=>ho (r.own b x),r.fr.frame b hb fun y=>y.elim (fun z=>hS b z hT) ho⟩
def Hand(n:Nat)(H H':List SObj)(args args':List SV)(new:List SObj):Prop:=
 ∀ (C Cc:Cx) (Hc:List SObj) (vs:List Value),Wd C H->SV.denL C args vs->Wd Cc Hc->Hc.length=n->Cc.w=C.w->(∀b,Cc.I b ↔ C.I b)->(∀b,OwnB C H b->¬OwnB Cc Hc b)->
  ∃C2 Cc2:Cx,C2.w=C.w∧C2.I=C.I∧Wd C2 H'∧Evo C C2∧(∀b,OwnB C2 H' b->OwnB C H b)∧Cc2.w=C.w∧Cc2.I=Cc.I∧Wd Cc2 (Hc++new)∧Evo Cc Cc2∧SV.denL Cc2 args' vs∧(∀b,OwnB Cc2 (Hc++new) b->OwnB Cc Hc b∨(OwnB C H b∧¬OwnB C2 H' b))
def q0P{n:Nat}(hc:SV.cleanL args=true):Hand n H H args args []:=fun C Cc Hc vs hw hv hwc _ e hi _=>⟨C,Cc,rfl,rfl,hw,Evo.refl _,fun _ h=>h,e,rfl,by rw [Ah];exact hwc,Evo.refl _,q1p (C:=C) (C':=Cc) (fun b hb=>⟨(hi b).2 hb,by rw [e]⟩) hc hv,fun b hb=>.inl (by rwa [Ah] at hb)⟩

def YG(P:Program)(l B N:Nat)(J:Nat->(Nat->Prop)->World->(Nat->Prop)->Prop)(vw:Nat->Nat->List SV->List SObj->Prop):Prop:=
 ∀ (i:Nat) (T T':List SObj) (args:List SV) (C:Cx) (S:Nat->Prop) (vs:List Value),i<N->Wd C (.mark i :: T)->J i S C.w C.I->(∀b,OwnB C (.mark i :: T) b->B<=b∧¬S b)->SV.denL C args vs->
  (∀n,∃args' new,vw i n args' new∧Hand n (.mark i :: T) (.mark i :: T') args args' new)->
  ∃f tmps assign body,(Instr.yield l vs.toArray).run P C.w= .ok (.round l f tmps assign body) C.w∧
   ∀ (r:Option Nat) (n:Nat),RoundIn (Fw r) n P l f tmps assign body C.w fun e w'=>∃ (b:Bool) (C':Cx) (S':Nat->Prop),e= .returned (.bool b)∧C'.w=w'∧
    Wd C' (.mark (if b then i+1 else N+1+i) :: T')∧J (if b then i+1 else N+1+i) S' C'.w C'.I∧Rnd S C C' (.mark i :: T) (.mark (if b then i+1 else N+1+i) :: T') S'

def vyld{G:Ghost}{l B N:Nat}{J:Nat->(Nat->Prop)->World->(Nat->Prop)->Prop}{vw:Nat->Nat->List SV->List SObj->Prop}{i:Nat}{T T':List SObj}{args:List SV}{K:Out->List SObj->Prop}
 (hG:∀ {E C},G.inv E C (.mark i :: T)->∃S,YCore B J E C (.mark i :: T) S∧∀ (C':Cx) (H':List SObj) (S':Nat->Prop),YCore B J E C' H' S'->Rnd S C C' (.mark i :: T) H' S'->G.inv E C' H')
 (hJ:FJ B J)(yg:YG P l B N J vw)(hi:i<N)(hh:∀n,∃args' new,vw i n args' new∧Hand n (.mark i :: T) (.mark i :: T') args args' new)
 (hk:∀b:Bool,K (.ret (.raw (.bool b))) (.mark (if b then i+1 else N+1+i) :: T')): @VYld G P l args (.mark i :: T) K:=by
 intro E C vs hw hg hv;obtain ⟨S,hc,hback⟩:=hG hg;obtain ⟨m,h1,h2⟩:=hc.st;have e:m=i:=by simpa using h1.symm
 subst e;obtain ⟨f,tmps,assign,body,hrun,hround⟩:=yg m T T' args C S vs hi hw h2 (fun b hb=>⟨(hc.own b hb).2,fun hs=>(hc.fp b hs).2 hb⟩) hv hh;refine ⟨f,tmps,assign,body,hrun,fun r n=>(hround r n).mono ?_⟩;rintro e w' ⟨b,C',S',rfl,rfl,k1,k2,k3⟩;obtain ⟨x1,x2⟩:=j0d hc k3 ⟨_,rfl,k2⟩;exact ⟨.raw (.bool b),_,C',.bool b,rfl,hk b,rfl,k1, @Stp.mk G E C _ C' _ k3.evo x1 fun _=>hback C' _ S' x2 k3,by rw [SV.den]⟩
def z3F{Ds:List Nat}{l N:Nat}{vw:Nat->Nat->List SV->List SObj->Prop}{T T':List SObj}
 (hJ:FJ B J)(yg:YG P l B N J vw)(hi:i<N)(hh:∀n,∃args' new,vw i n args' new∧Hand n (.mark i :: T) (.mark i :: T') args args' new)
 (hk:∀b:Bool,K (.ret (.raw (.bool b))) (.mark (if b then i+1 else N+1+i) :: T')): @VYld (topG (yFG hJ) Ds) P l args (.mark i :: T) K:=by
 refine @vyld P (topG (yFG hJ) Ds) l B N J vw i T T' args K (fun {E C} hg=> ?_) hJ yg hi hh hk;obtain ⟨ht,⟨S,hc⟩,hnd,hok⟩:=hg;refine ⟨S,hc,fun C' H' S' hc' hr=>⟨⟨j3C hr ht.tab fun b hb=>(yFG hJ).nt hc hb,ht.old⟩,⟨S',hc'⟩,hnd,fun D hD=> ?_⟩⟩;have m:=hok D hD;have hlt:D<C.w.heap.size:=(AE.1 m.at_).1;have hS:¬S D:=fun hs=>absurd ((yFG hJ).lo hc hs m.far) (AT.2 m.sz);refine ⟨m.sz,fun hi=> ?_,fun ho=>m.own (hr.own _ ho),(hr.fr.frame _ hlt fun hq=>hq.elim hS m.own).trans m.at_⟩;exact (hr.fr.imm _ hi).elim m.imm fun ⟨y,_⟩=>y.elim (fun y=>absurd hlt (AT.2 y)) fun y=>y.elim hS m.own

def Iter(P:Program)(f:FuncId)(fi ca:List SV)(N:Nat)(vw:Nat->Nat->List SV->List SObj->Prop):Prop:=
 enters P f=true∧∀ (l B:Nat) (J:Nat->(Nat->Prop)->World->(Nat->Prop)->Prop) (hJ:FJ B J),YG P l B N J vw->
  @VCallG (fgG (yFG hJ)) P f (fi++ [.raw (.func (.yield l) #[] #[])]++ca) [.mark 0] fun o H'=>∃s m,o= .ret s∧H'[0]?=some (.mark m)∧N<=m
def IterO(inf:Prop)(P:Program)(f:FuncId)(fi ca:List SV)(ob:List SObj)(N:Nat)(vw:Nat->Nat->List SV->List SObj->Prop):Prop:=
 enters P f=true∧∀ (l B:Nat) (J:Nat->(Nat->Prop)->World->(Nat->Prop)->Prop) (hJ:FJ B J),YG P l B N J vw->(inf->∀S w I,¬J N S w I)->
  @VCallG (fgG (yFG hJ)) P f (fi++ [.raw (.func (.yield l) #[] #[])]++ca) (.mark 0 :: ob) fun o H'=>∃s m,o= .ret s∧H'[0]?=some (.mark m)∧N<=m
abbrev IterI(inf:Prop)(P:Program)(f:FuncId)(fi ca:List SV)(N:Nat)(vw:Nat->Nat->List SV->List SObj->Prop):Prop:=IterO inf P f fi ca [] N vw
def Iter.toI{inf:Prop}{f:FuncId}{fi ca:List SV}{N:Nat}{vw:Nat->Nat->List SV->List SObj->Prop}(h:Iter P f fi ca N vw):IterI inf P f fi ca N vw:=⟨h.1,fun l B J hJ yg _=>h.2 l B J hJ yg⟩

variable {P:Program} {AQ:Ex->List SV->List SObj->Prop} {k0:Nat} {k:List It} {t:List SV} {H:List SObj}

def putL:List Tmp->List SV->List SV->List SV
 |p :: ps,s :: l,t=>putL ps l (t.set p s)
 |_,_,t=>t
def z0z{C:Cx}:∀ (ps:List Tmp) (l:List SV) (vs:List Value) (t:List SV) (us:Array Value),SV.denL C l vs->SV.denL C t us.toList->SV.denL C (putL ps l t) ((ps.zip vs).foldl (fun tm x=>tm.setIfInBounds x.1 x.2) us).toList
 | [],_,_,_,_,_,ht=>by simpa [putL] using ht
 |p :: ps,[],vs,t,us,hl,ht=>by rw [q0y] at hl;subst hl;simpa [putL] using ht
 |p :: ps,s :: l,vs,t,us,hl,ht=>by obtain ⟨v,vs',rfl,h1,h2⟩:=q0d.1 hl;simp only [putL,List.zip_cons_cons,Bq];exact z0z ps l vs' _ _ h2 (by rw [Cd];exact q2k ht h1)
def j1z{ps:Array Tmp}{l:List SV}{vs:List Value}{us:Array Value}(hl:SV.denL C l vs)(ht:SV.denL C t us.toList):SV.denL C (putL ps.toList l t) ((ps.zip vs.toArray).foldl (fun tm (p,v)=>tm.setIfInBounds p v) us).toList:=by have:=z0z ps.toList l vs t us hl ht;rw [<-CO,Array.toList_zip];exact this

def Fr.congr{Q:Nat->Prop}{A A' B B':Cx}(h:Fr Q A B)(e1:A'.w=A.w)(i1:∀b,A'.I b ↔ A.I b)(e2:B'.w=B.w)(i2:∀b,B'.I b ↔ B.I b):Fr Q A' B' where
 size:=by rw [e1,e2];exact h.size
 os:=by rw [e1,e2];exact h.os
 tape:=by rw [e1,e2];exact h.tape
 output:=by rw [e1,e2];exact h.output
 keep:=fun b hb=>⟨(i2 b).2 (h.keep b ((i1 b).1 hb)).1,by rw [e1,e2];exact (h.keep b ((i1 b).1 hb)).2⟩
 sz:=by rw [e1,e2];exact h.sz
 frame:=by rw [e1,e2];exact h.frame
 imm:=fun b hb=>by rw [e1,e2];exact (h.imm b ((i2 b).1 hb)).imp (i1 b).2 id
def j7g{Q:Nat->Prop}(hw:Wd C H)(hf:Fr Q C C')(hq:∀b,OwnB C H b->¬Q b)(hr:C'.ρ=C.ρ)(hn:C'.n=C.n)(hi:∀b,C'.I b->b<C'.w.heap.size):Wd C' H∧Evo C C':=by
 have he:Evo C C':=⟨by rw [hn];exact Af _,fun h _=>by rw [hr],hf.keep,hf.sz⟩
 have hown:∀b,OwnB C' H b->OwnB C H b:=fun b ⟨h,o,ho,hl,hb⟩=>⟨h,o,ho,hl,by rw [<-hr];exact hb⟩
 refine ⟨⟨by rw [hn];exact hw.n,fun h o ho=> ?_,fun b hb=> ?_,fun h h' o o' b h1 h2 h3 h4 h5 h6=>hw.inj h h' o o' b h1 h2 h3 h4 (by rw [<-hr];exact h5) (by rw [<-hr];exact h6),hi⟩,he⟩
 . by_cases hl:o.live=true
   . exact q0E he.I h (by rw [hr]) (fun b hb=>hf.frame b (hw.own b ⟨h,o,ho,hl,hb⟩).2 (hq b ⟨h,o,ho,hl,hb⟩)) (q0h he) (hw.obj h o ho)
   cases o<;>first|trivial|simp [SObj.live] at hl
 have h1:=hown b hb;have h2:=hw.own b h1;exact ⟨fun hi=>(hf.imm b hi).elim h2.1 fun ⟨x,_⟩=>x.elim (fun y=>absurd h2.2 (AT.2 y)) (hq b h1),An h2.2 hf.size⟩
def z4x{j:Nat}{T:List SObj}(h:OwnB C (.mark i :: T) b):OwnB C (.mark j :: T) b:=by
 obtain ⟨x,o,ho,hl,hb⟩:=h;cases x with
 |zero=>simp at ho;subst ho;simp [SObj.live] at hl
 |succ x=>exact ⟨x+1,o,by simpa using ho,hl,hb⟩
def j3u{j:Nat}{T:List SObj}(h:Wd C (.mark i :: T)):Wd C (.mark j :: T):=by
 have hget:∀ {x:Nat} {o:SObj},(SObj.mark j :: T)[x]?=some o->o.live=true->(SObj.mark i :: T)[x]?=some o:=fun {x o} ho hl=>by
  cases x with
  |zero=>simp at ho;subst ho;simp [SObj.live] at hl
  |succ x=>simpa using ho
 refine ⟨h.n,fun x o ho=> ?_,fun b hb=>h.own b (z4x hb),fun x x' o o' b h1 h2 h3 h4=>h.inj x x' o o' b (hget h1 h3) (hget h2 h4) h3 h4,h.imm⟩;by_cases hl:o.live=true
 . exact h.obj x o (hget ho hl)
 cases o<;>first|trivial|simp [SObj.live] at hl

structure Cal (g:FG) (E:EnD) (Ds:List Nat) (t:List SV) (tms:List Value) (l:Nat) (o:Obj) (C:Cx) (H:List SObj) (S:Nat->Prop):Prop where
 wd:Wd C H
 ext:Ext E.toEn C H
 core:g.core E C H S
 tmps:SV.denL C t tms
 marks:∀D∈Ds,MarkOk E.toEn C H D
 lne:l ∉ Ds
 lsz:E.C.w.heap.size<=l
 limm:¬C.I l
 lown:¬OwnB C H l
 lat:C.w.heap[l]?=some o
 lfar:far o
 tab:TabE E.toEn C H
def calS(Ds:List Nat)(l:Nat)(C:Cx)(H:List SObj)(S:Nat->Prop)(b:Nat):Prop:=OwnB C H b∨S b∨b=l∨b∈Ds
variable {g:FG} {E:EnD} {Ds:List Nat} {tms:List Value} {l:Nat} {o:Obj} {C:Cx} {S:Nat->Prop}

def Cal.fp(h:Cal g E Ds t tms l o C H S){b:Nat}(hb:calS Ds l C H S b):¬C.I b∧b<C.w.heap.size:=by
 rcases hb with x|x|x|x
 . exact h.wd.own b x
 . exact ⟨(g.perm h.core x).2.1,(g.perm h.core x).2.2.2⟩
 . subst x;exact ⟨h.limm,(AE.1 h.lat).1⟩
 exact ⟨(h.marks b x).imm,(AE.1 (h.marks b x).at_).1⟩
theorem Cal.abide{B:Nat}{w':World}{I':Nat->Prop}(h:Cal g E Ds t tms l o C H S)(hB:E.C.w.heap.size<=B)(hs:C.w.heap.size<=w'.heap.size)(hf:∀b,b<C.w.heap.size->(b<B∨calS Ds l C H S b∨C.I b)->w'.heap[b]?=C.w.heap[b]?)
 (h1:w'.os=C.w.os)(h2:w'.tape=C.w.tape)(h3:w'.output=C.w.output)(hz:∀b m,World.bsize C.w b=some m->World.bsize w' b=some m)(hI:∀b,C.I b->I' b)(hI':∀b,I' b->C.I b∨(B<=b∧¬calS Ds l C H S b∧Unf w' b))(hlt:∀b,I' b->b<w'.heap.size):
 Cal g E Ds t tms l o {C with w:=w',I:=I'} H S:=by
 have hk:Keeps C.I I' C.w w':=fun b hb=>⟨hI b hb,hf b (h.wd.imm b hb) (.inr (.inr hb))⟩;have he:Evo C {C with w:=w',I:=I'}:=⟨Af _,fun _ _=>rfl,hk,hz⟩
 refine ⟨⟨h.wd.n,fun x o ho=> ?_,fun b hb=> ?_,h.wd.inj,hlt⟩,⟨h.ext.evo.trans he,As h.ext.size hs,h1.trans h.ext.os,h2.trans h.ext.tape,h3.trans h.ext.output,fun b hb hn=> ?_,fun b hb=> ?_,h.ext.ownNew,h.ext.keep0⟩,?_,q0h he h.tmps,fun D hD=> ?_,h.lne,h.lsz,?_,h.lown,?_,h.lfar,⟨h.tab.tab.keep hk fun b hT hb ho=>⟨An hb hs,ho,hf b hb (.inl (An (h.tab.old b hT) hB))⟩,h.tab.old⟩⟩
 . by_cases hl:o.live=true
   . exact q0E (C':={C with w:=w',I:=I'}) hk x rfl (fun b hb=>hf b (h.wd.own b ⟨x,o,ho,hl,hb⟩).2 (.inr (.inl (.inl ⟨x,o,ho,hl,hb⟩)))) (q0h he) (h.wd.obj x o ho)
   cases o<;>first|trivial|simp [SObj.live] at hl
 . have:=h.wd.own b hb;exact ⟨fun hi=>(hI' b hi).elim this.1 fun y=>y.2.1 (.inl hb),An this.2 hs⟩
 . exact (hf b (An hb h.ext.size) (.inl (An hb hB))).trans (h.ext.frame b hb hn)
 . rcases hI' b hb with x|x
   . exact orMap (h.ext.immNew b x) id fun ⟨y,u⟩=>⟨y,u.keep (hk b x).2⟩
   exact .inr ⟨.inl (As hB x.1),x.2.2⟩
 . refine g.abide h.core hs (fun b hb hc=>hf b hb ?_) (fun b hb=>(hk b hb).2) h1 h2 h3 hz hI fun b hb=>orMap (hI' b hb) id fun x=>⟨As hB x.1,fun y=>x.2.1 (.inr (.inl y)),fun y=>x.2.1 (.inl y),x.2.2⟩;rcases hc with x|x|x|x
   . exact .inl (An x hB)
   . exact .inr (.inl (.inr (.inl x)))
   . exact .inr (.inr x)
   exact .inr (.inl (.inl x))
 . have m:=h.marks D hD;exact ⟨m.sz,fun hi=>(hI' D hi).elim m.imm fun y=>y.2.1 (.inr (.inr (.inr hD))),m.own,(hf D (AE.1 m.at_).1 (.inr (.inl (.inr (.inr (.inr hD)))))).trans m.at_⟩
 . exact fun hi=>(hI' l hi).elim h.limm fun y=>y.2.1 (.inr (.inr (.inl rfl)))
 exact (hf l (AE.1 h.lat).1 (.inr (.inl (.inr (.inr (.inl rfl)))))).trans h.lat
def Cal.chg(h:Cal g E Ds t tms l o C H S){o':Obj}(ho:far o'):Cal g E Ds t tms l o' (chgC C l o') H S:=by have hf:FarAt C.w l:=⟨o,h.lat,h.lfar⟩;refine ⟨j5C h.wd h.limm h.lown hf,j4K h.ext h.limm hf h.lsz,g.chg h.core h.lsz h.limm h.lown hf,q0h (q7r h.limm hf) h.tmps,fun D hD=> ?_,h.lne,h.lsz,h.limm,h.lown,j3c h.lat,ho,⟨h.tab.tab.keep (q7r h.limm hf).I fun b hT hb ho=>⟨by rw [q3D];exact hb,ho,q1d fun e=>absurd (h.tab.old b hT) (AT.2 (e▸h.lsz))⟩,h.tab.old⟩⟩;have m:=h.marks D hD;exact ⟨m.sz,m.imm,m.own,(q1d (D:=l) fun e=>h.lne (e▸hD)).trans m.at_⟩

def exC:Ex->Option Code
 |.ret=>some .ret
 |.exit id=>some (.exit id)
 |_=>none
def rfAt(N:Nat)(Hs:Nat->List SObj->Prop)(X:Nat->Ex->List SObj->Prop)(rec:LoopState->Option Code->Loop)(m:Nat)(H:List SObj)(o:Obj):Prop:=
 (m<=N∧Hs m H∧o= .loop (rec .ready none))∨∃i ex c,m=N+1+i∧i<N∧X i ex H∧exC ex=some c∧o= .loop (rec .done (some c))
def rfJ(g:FG)(E:EnD)(Ds:List Nat)(t:List SV)(tms:List Value)(l N:Nat)(Hs:Nat->List SObj->Prop)(X:Nat->Ex->List SObj->Prop)(rec:LoopState->Option Code->Loop)(m:Nat)(S:Nat->Prop)(w:World)(I:Nat->Prop):Prop:=
 ∃ (C:Cx) (S0:Nat->Prop) (H:List SObj) (o:Obj),C.w=w∧(∀b,C.I b ↔ I b∧b<w.heap.size)∧Cal g E Ds t tms l o C H S0∧(∀b,S b ↔ calS Ds l C H S0 b)∧rfAt N Hs X rec m H o
variable {Hs:Nat->List SObj->Prop}{X:Nat->Ex->List SObj->Prop}{rec:LoopState->Option Code->Loop}
def j5O{N:Nat}(hB:E.C.w.heap.size<=B):FJ B (rfJ g E Ds t tms l N Hs X rec) where
 abide:=by
  rintro m S w I w' I' ⟨C,S0,H,o,rfl,hI,hc,hS,hat⟩ hs hf hkI h1 h2 h3 hz hi hi';refine ⟨{C with w:=w',I:=fun b=>I' b∧b<w'.heap.size},S0,H,o,rfl,fun b=>Iff.rfl,hc.abide hB hs (fun b hb hx=>hf b hb ?_) h1 h2 h3 hz (fun b hb=>⟨hi b ((hI b).1 hb).1,An ((hI b).1 hb).2 hs⟩) (fun b hb=> ?_) (fun b hb=>hb.2),hS,hat⟩
  . rcases hx with x|x|x
    . exact .inl x
    . exact .inr (.inl ((hS b).2 x))
    exact .inr (.inr ((hI b).1 x).1)
  rcases hi' b hb.1 with x|x
  . rcases AI b C.w.heap.size with y|y
    . exact .inl ((hI b).2 ⟨x,y⟩)
    have hn:=hkI b x;rw [BD y] at hn;exact absurd hb.2 (AT.2 (Array.getElem?_eq_none_iff.1 hn))
  exact .inr ⟨x.1,fun y=>x.2.1 ((hS b).2 y),x.2.2⟩
 fp:=by rintro m S w I b ⟨C,S0,H,o,rfl,hI,hc,hS,hat⟩ hb;have:=hc.fp ((hS b).1 hb);exact ⟨fun hi=>this.1 ((hI b).2 ⟨hi,this.2⟩),this.2⟩
 nt:=by
  rintro m S w I b ⟨C,S0,H,o,rfl,hI,hc,hS,hat⟩ hb hT;rcases (hS b).1 hb with x|x|x|x
  . exact hc.tab.tab.own b hT x
  . exact g.nt hc.core x hT
  . exact absurd (hc.tab.old b hT) (AT.2 (x▸hc.lsz))
  exact absurd (hc.tab.old b hT) (AT.2 (hc.marks b x).sz)
def j2I{N m:Nat}{I:Nat->Prop}(hB:E.C.w.heap.size<=B)(hl:l<B)(hD:∀D∈Ds,D<B)
 (h:rfJ g E Ds t tms l N Hs X rec m S w I)(hb:S b)(hf:FarAt w b):b<B:=by
 obtain ⟨C,S0,H,o,rfl,hI,hc,hS,hat⟩:=h;rcases (hS b).1 hb with x|x|x|x
 . exact absurd hf (z4U hc.wd x)
 . exact An (g.lo hc.core x hf) hB
 . subst x;exact hl
 exact hD b x
end Go.Sx