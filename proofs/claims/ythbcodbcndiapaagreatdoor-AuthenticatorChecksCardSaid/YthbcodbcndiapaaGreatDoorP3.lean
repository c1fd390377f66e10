/- A part of the proof: a symbolic executor over abstract values, and its soundness. -/
import Derived.Test.YthbcodbcndiapaaGreatDoorP2
import Derived.Laws.Append
import Derived.MapKept
set_option linter.all false
namespace Go.Sx
section
open Go

variable [Ghost] {P:Program} {o:Oper} {ev:Operand->SV} {H:List SObj} {K:Out->List SObj->Prop}

def relL(I:Nat->Prop)(w:World)(t:Ty):List t.den->List Value->Prop
 | [],vs=>vs= []
 |x :: xs,vs=>∃us vs',vs=us++vs'∧t.rel I w x us∧relL I w t xs vs'

variable {I:Nat->Prop} {w:World} {t:Ty}

def q0Q:∀ {xs:List t.den} {vs:List Value},relL I w t xs vs->vs.length=xs.length*t.size
 | [],_,h=>by cases h;simp
 |x :: xs,_,h=>by obtain ⟨us,vs',rfl,h1,h2⟩:=h;rw [Ab,t.rel_size _ _ h1,q0Q h2,AK,Nat.add_mul,Cb,Bs]

def q8Y:∀ {xs:List t.den} {vs:List Value},relL I w t xs vs->∀i x,xs[i]?=some x->∃us,t.rel I w x us∧∀k u,us[k]?=some u->vs[i*t.size+k]?=some u
 | [],_,_,i,x,hx=>by simp at hx
 |y :: xs,_,h,0,x,hx=>by obtain ⟨us,vs',rfl,h1,h2⟩:=h;simp at hx;subst hx;refine ⟨us,h1,fun k u hu=> ?_⟩;rw [BF,Ae,Ai ((Ag.1 hu).1)];exact hu
 |y :: xs,_,h,i+1,x,hx=>by obtain ⟨us,vs',rfl,h1,h2⟩:=h;simp at hx;obtain ⟨us',g1,g2⟩:=q8Y h2 i x hx;refine ⟨us',g1,fun k u hu=> ?_⟩;have hl:=t.rel_size _ _ h1;rw [Ao (by rw [hl,Nat.add_mul];omega)];rw [hl,show (i+1)*t.size+k-t.size=i*t.size+k by rw [Nat.add_mul];omega];exact g2 k u hu

def q1B:∀ {xs ys:List t.den} {vs us:List Value},relL I w t xs vs->relL I w t ys us->relL I w t (xs++ys) (vs++us)
 | [],_,_,_,h,k=>by cases h;exact k
 |x :: xs,ys,_,us,h,k=>by obtain ⟨us',vs',rfl,h1,h2⟩:=h;exact ⟨us',vs'++us,by rw [List.append_assoc],h1,q1B h2 k⟩

theorem q3b{I':Nat->Prop}{w':World}(hk:Keeps I I' w w'):∀ {xs:List t.den} {vs:List Value},relL I w t xs vs->relL I' w' t xs vs
 | [],_,h=>h
 |x :: xs,_,h=>by obtain ⟨us,vs',rfl,h1,h2⟩:=h;exact ⟨us,vs',rfl,t.rel_keep hk _ _ h1,q3b hk h2⟩

theorem q5I:∀ (t:Ty) (x:t.den) (vs:List Value),t.rel I w x vs->∀v∈vs,v.oneCell'=true
 |.u8,_,_,h,v,hv=>by cases h;simp at hv;subst hv;rfl
 |.int _,_,_,h,v,hv=>by cases h;simp at hv;subst hv;rfl
 |.bool,_,_,h,v,hv=>by cases h;simp at hv;subst hv;rfl
 |.str,_,_,h,v,hv=>by cases h.1;simp at hv;subst hv;rfl
 |.slice t,xs,vs,h,v,hv=>by obtain ⟨A,n,c,rfl,_⟩:=h;simp at hv;subst hv;rfl
 |.prod a b,x,vs,h,v,hv=>by
  obtain ⟨v1,v2,rfl,h1,h2⟩:=h;rcases BV.1 hv with hv|hv
  . exact q5I a _ _ h1 v hv
  exact q5I b _ _ h2 v hv
 |.unit,_,_,h,v,hv=>by cases h;cases hv
 |.arr n t,xs,vs,h,v,hv=>by obtain ⟨hn,vss,rfl,hl,h⟩:=h;obtain ⟨us,hu,hv⟩:=List.mem_flatten.1 hv;obtain ⟨i,hi,rfl⟩:=A9 hu;exact q5I t _ _ (h i (xs[i]'(by omega)) _ (Ac _) (Ac hi)) v hv
 |.ptr t,x,vs,h,v,hv=>by rcases h with ⟨_,rfl⟩ | ⟨z,b,off,us,_,rfl,_⟩ <;> (simp at hv;subst hv;rfl)
 |.clo f t,x,vs,h,v,hv=>by obtain ⟨us,rfl,_⟩:=h;simp at hv;subst hv;rfl
 |.clp f t,x,vs,h,v,hv=>by obtain ⟨b,off,us,rfl,_⟩:=h;simp at hv;subst hv;rfl
 |.mbs t,x,vs,h,v,hv=>by obtain ⟨A,n,c,rfl,_⟩:=h;simp at hv;subst hv;rfl
def q8W:∀ {xs:List t.den} {vs:List Value},relL I w t xs vs->∀v∈vs,v.oneCell'=true
 | [],_,h,v,hv=>by cases h;cases hv
 |x :: xs,_,h,v,hv=>by
  obtain ⟨us,vs',rfl,h1,h2⟩:=h;rcases BV.1 hv with hv|hv
  . exact q5I t _ _ h1 v hv
  exact q8W h2 v hv

variable {xs:List t.den}
def q3W{vs:List Value}{b off:Nat}(h:relL I w t xs vs)(hc:∀j u,vs[j]?=some u->w.cell? ⟨b,off+j,none⟩=some u):rowAt I w t xs b off:=fun i x hx=>by obtain ⟨us,h1,h2⟩:=q8Y h i x hx;exact ⟨us,h1,fun k u hu=>by rw [Nat.add_assoc];exact hc _ _ (h2 k u hu)⟩

def q8c:∀ {xs:List t.den} {b off:Nat},rowAt I w t xs b off->∃vs,relL I w t xs vs∧∀j u,vs[j]?=some u->w.cell? ⟨b,off+j,none⟩=some u
 | [],_,_,_=>⟨[],rfl,fun j u h=>by simp at h⟩
 |x :: xs,b,off,h=>by
  obtain ⟨us,h1,h2⟩:=h 0 x rfl;have hl:=t.rel_size _ _ h1
  obtain ⟨vs,g1,g2⟩:=q8c (xs:=xs) (b:=b) (off:=off+t.size) (fun i y hy=>by
   obtain ⟨us',k1,k2⟩:=h (i+1) y (by simpa using hy);refine ⟨us',k1,fun k u hu=> ?_⟩;have:=k2 k u hu
   rwa [show off+ (i+1)*t.size+k=off+t.size+i*t.size+k by rw [Nat.add_mul];omega] at this)
  refine ⟨us++vs,⟨us,vs,rfl,h1,g1⟩,fun j u hu=> ?_⟩;rcases AI j us.length with hj|hj
  . rw [Ai hj] at hu;have:=h2 j u hu;rwa [BF,AB] at this
  rw [Ao hj] at hu;have:=g2 _ u hu;rwa [show off+t.size+ (j-us.length)=off+j by omega] at this

def z1i:∀ {xs:List t.den} {vs:List Value} (n:Nat),relL I w t xs vs->relL I w t (xs.take n) (vs.take (n*t.size))
 | [],_,_,h=>by cases h;simp [relL]
 |x :: xs,_,0,h=>by simp [relL]
 |x :: xs,_,n+1,h=>by obtain ⟨us,vs',rfl,h1,h2⟩:=h;have hl:=t.rel_size _ _ h1;refine ⟨us,vs'.take (n*t.size),?_,h1,z1i n h2⟩;rw [Ch,hl,Nat.add_mul,Cb,BT,Ad (by omega)]
def z1m:∀ {xs:List t.den} {vs:List Value} (n:Nat),relL I w t xs vs->relL I w t (xs.drop n) (vs.drop (n*t.size))
 | [],_,_,h=>by cases h;simp [relL]
 |x :: xs,_,0,h=>by simpa using h
 |x :: xs,_,n+1,h=>by
  obtain ⟨us,vs',rfl,h1,h2⟩:=h;have hl:=t.rel_size _ _ h1;have:=z1m n h2;have e:(us++vs').drop ((n+1)*t.size)=vs'.drop (n*t.size):=by rw [BZ,hl,Nat.add_mul,Cb,BT,A2 (by omega),Ax]
  rw [e];exact this

def srcOf(t:Ty)(H:List SObj):SV->Option (List t.den)
 |.isl t' xs=>if h:t'=t then some (cast (by rw [h]) xs) else none
 |.raw (.slice none 0 0)=>some []
 |.bld h t' n=>match H[h]? with
  |some (.row t'' xs)=>if h:t''=t∧t'=t then some (cast (by rw [h.1]) (xs.take n)) else none
  |_=>none
 |.osl h t' off n=>match H[h]? with
  |some (.row t'' xs)=>if h:t''=t∧t'=t then some (cast (by rw [h.1]) ((xs.drop off).take n)) else none
  |_=>none
 |_=>none

variable {C:Cx}{v:Value}
def q9Y{h off n:Nat}(hw:Wd C H)(hH:H[h]?=some (.row t xs))(hd:(SV.osl h t off n).den C v)(hn:off+n<=xs.length):
 ∃A c,v= .slice A n c∧n<=c∧(n=0∨∃b,A=some ⟨b,off*t.size,none⟩∧C.ρ h=some b∧b<C.w.heap.size∧rowAt C.I C.w t ((xs.drop off).take n) b (off*t.size)):=by
 rw [SV.den] at hd;obtain ⟨_,A,c,hv,hc,hd⟩:=hd;refine ⟨A,c,hv,hc,?_⟩;rcases hd with h0| ⟨b,hb,hA⟩
 . exact .inl h0
 rcases hw.obj h _ hH with ⟨h1,h2⟩ | ⟨b',arr,T,fz,hb',hcell,hfz,hsz,hrow⟩
 . subst h2;simp at hn;exact .inl (by omega)
 rw [hb] at hb';cases hb';refine .inr ⟨b,hA,hb,(AE.1 hcell).1,?_⟩;obtain ⟨vs,g1,g2⟩:=q8c hrow;refine q3W (z1i n (z1m off g1)) fun j u hu=> ?_;rw [AN] at hu;split at hu
 . rw [AA] at hu;have:=g2 _ u hu;rwa [Ae] at this
 cases hu

theorem q6c{h n:Nat}(hd:(SV.bld h t n).den C v):(SV.osl h t 0 n).den C v:=by
 simp only [SV.den] at hd⊢;obtain ⟨hn,⟨h1,rfl,rfl⟩ | ⟨b,c,m,hb,rfl,hc,_⟩⟩:=hd
 . exact ⟨hn,none,0,rfl,Af _,.inl rfl⟩
 exact ⟨hn,_,c,rfl,hc,.inr ⟨b,hb,by rw [BF]⟩⟩

variable {ys:List t.den}
def q1D{A:Option Addr}{c:Nat}(h:ys= []∨∃b off,A=some ⟨b,off,none⟩∧rowAt C.I C.w t ys b off):
 ∃news,relL C.I C.w t ys news∧(Builtin.firstCells t.size ys.length (.slice A ys.length c)).run P C.w= .ok news.toArray C.w:=by
 rcases h with rfl| ⟨b,off,rfl,h⟩
 . refine ⟨[],rfl,?_⟩;cases A with
   |none=>simp [Builtin.firstCells]
   |some a=>simp [Builtin.firstCells,loadCells,loadCellsFrom]
 obtain ⟨vs,g1,g2⟩:=q8c h;refine ⟨vs,g1,?_⟩;have:=run_loadCells_list (P:=P) C.w ⟨b,off,none⟩ vs (fun j v hj=>by rw [q0I];exact g2 j v hj);rw [q0Q g1] at this;simpa [Builtin.firstCells] using this

theorem z8q{y:SV}(hw:Wd C H)(hd:y.den C v)(hs:srcOf t H y=some ys)(hok:∀h t' off n xs,(y= .osl h t' off n∨(y= .bld h t' n∧off=0))->H[h]?=some (.row t xs)->off+n<=xs.length):
 ∃A c news,v= .slice A ys.length c∧relL C.I C.w t ys news∧(Builtin.firstCells t.size ys.length v).run P C.w= .ok news.toArray C.w:=by
 unfold srcOf at hs;split at hs
 . split at hs
   . rename_i h;subst h;cases hs;rw [SV.den] at hd;obtain ⟨A,n,c,e,rfl,_,_,hd⟩:=hd;cases e;obtain ⟨news,g1,g2⟩:=q1D (P:=P) (C:=C) (A:=A) (c:=c) (orMap hd id fun ⟨b,off,h1,_,h2⟩=>⟨b,off,h1,h2⟩);exact ⟨A,c,news,rfl,g1,g2⟩
   cases hs
 . cases hs;rw [SV.den] at hd;subst hd;exact ⟨none,0,[],rfl,rfl,by simp [Builtin.firstCells]⟩
 . split at hs
   . split at hs
     . rename_i h _ n _ t'' xs hH ht;obtain ⟨rfl,rfl⟩:=ht;cases hs;have hle:=hok h _ 0 n xs (.inr ⟨rfl,rfl⟩) hH;rw [Ae] at hle;obtain ⟨A,c,rfl,hc,hd⟩:=q9Y hw hH (q6c hd) (by omega);have hl:(xs.take n).length=n:=by simp;omega
       obtain ⟨news,g1,g2⟩:=q1D (P:=P) (C:=C) (A:=A) (c:=c) (ys:=xs.take n) (by
        rcases hd with rfl| ⟨b,h1,_,_,h2⟩
        . exact .inl (by simp)
        exact .inr ⟨b,_,h1,by simpa using h2⟩)
       rw [hl] at g2;exact ⟨A,c,news,by rw [cast_eq,hl],g1,by rw [cast_eq,hl];exact g2⟩
     cases hs
   cases hs
 . split at hs
   . split at hs
     . rename_i h _ off n _ t'' xs hH ht;obtain ⟨rfl,rfl⟩:=ht;cases hs;have hle:=hok h _ off n xs (.inl rfl) hH;obtain ⟨A,c,rfl,hc,hd⟩:=q9Y hw hH hd hle;have hl:((xs.drop off).take n).length=n:=by simp;omega
       obtain ⟨news,g1,g2⟩:=q1D (P:=P) (C:=C) (A:=A) (c:=c) (ys:=(xs.drop off).take n) (by
        rcases hd with rfl| ⟨b,h1,_,_,h2⟩
        . exact .inl (by simp)
        exact .inr ⟨b,_,h1,h2⟩)
       rw [hl] at g2;exact ⟨A,c,news,by rw [cast_eq,hl],g1,by rw [cast_eq,hl];exact g2⟩
     cases hs
   cases hs
 cases hs
end
section
open Go

variable [Ghost] {P:Program} {o:Oper} {ev:Operand->SV} {H:List SObj} {K:Out->List SObj->Prop} {t:Ty}

def srcType(P:Program)(t:TypeId):Option Bool:=match P.underlying t with
 |some (.slice _)=>some true
 |some .string=>some false
 |_=>none
theorem q2j{tX:TypeId}{b:Bool}(h:srcType P tX=some b):(∃e,P.underlying tX=some (.slice e))∨P.underlying tX=some .string:=by
 unfold srcType at h;split at h
 . exact .inl ⟨_,by assumption⟩
 . exact .inr (by assumption)
 cases h

section
variable {w:World} {tS tX ty e:TypeId} {i:TypeInfo} {sLen sCap n:Nat} {xv:Value} {news:List Value}

variable {bb:Bool}
def q8k(ht:P.underlying tS=some (.slice e))(hx:srcType P tX=some bb)(hi:P.info? e=some i)(hlen:(Builtin.lenOf xv).run P w= .ok 0 w)
 (hfc:(Builtin.firstCells i.size 0 xv).run P w= .ok news.toArray w):
 (Builtin.append_ #[tS,tX] ty #[.slice none 0 0,xv]).run P w= .ok (.slice none 0 0) w:=by
 rcases q2j hx with ⟨e',hd⟩ |hd<;>clear hx<;>have hd:=run_underlying' hd
 all_goals simp [Builtin.append_,run_underlying' ht,sizeOf,typeInfo,hi,hd,hlen,hfc]

def q7I{b:Nat}(ht:P.underlying tS=some (.slice e))(hx:srcType P tX=some bb)(hi:P.info? e=some i)(hlen:(Builtin.lenOf xv).run P w= .ok n w)
 (hfc:(Builtin.firstCells i.size n xv).run P w= .ok news.toArray w)(hroom:sLen+n<=sCap)
 (hst:(storeCells ⟨b,sLen*i.size,none⟩ news 0).run P w= .ok () (w.setCells b (sLen*i.size) news)):
 (Builtin.append_ #[tS,tX] ty #[.slice (some ⟨b,0,none⟩) sLen sCap,xv]).run P w= .ok (.slice (some ⟨b,0,none⟩) (sLen+n) sCap) (w.setCells b (sLen*i.size) news):=by
 rcases q2j hx with ⟨e',hd⟩ |hd<;>clear hx<;>have hd:=run_underlying' hd
 all_goals simp [Builtin.append_,run_underlying' ht,sizeOf,typeInfo,hi,hd,hlen,hfc,hroom,q0I,hst]

def q3B{z:Value}{base:Option Addr}{old:List Value}(ht:P.underlying tS=some (.slice e))(hx:srcType P tX=some bb)(hi:P.info? e=some i)(hz:i.zero=some z)(hlen:(Builtin.lenOf xv).run P w= .ok n w)
 (hroom:sCap<sLen+n)(h63:sLen+n<=9223372036854775807)(hb:(sLen+n)*i.bytes<=140737488355328)
 (hold:(Builtin.firstCells i.size sLen (.slice base sLen sCap)).run P w.drew= .ok old.toArray w.drew)
 (hfc:(Builtin.firstCells i.size n xv).run P w.drew= .ok news.toArray w.drew):
 ∃cap,sLen+n<=cap∧(Builtin.append_ #[tS,tX] ty #[.slice base sLen sCap,xv]).run P w= .ok (.slice (some ⟨w.heap.size,0,none⟩) (sLen+n) cap) (w.drew.alloc (.cells (old++news++(Builtin.zeroCells z.cells (cap- (sLen+n))).toList).toArray e)):=by
 refine ⟨(Question.appendCap (sLen+n) sCap e).cut (w.tape w.drawn (.appendCap (sLen+n) sCap e)),by simp [Question.cut],?_⟩;have hfit:=growslice_fits hroom hb;have hn1:¬(sLen+n<=sCap):=by omega
 have hn2:¬(((sLen:Int)+ (n:Int)) >9223372036854775807):=by omega
 have hn2':¬((9223372036854775807:Int) < (sLen:Int)+ (n:Int)):=hn2;have hn3:¬(281474976710656<Builtin.nextslicecap (sLen+n) sCap*i.bytes):=by omega
 have hmax:IntKind.i64.max=9223372036854775807:=by decide
 rcases q2j hx with ⟨e',hd⟩ |hd<;>clear hx<;>have hd:=run_underlying' hd
 all_goals simp [Builtin.append_,run_underlying' ht,sizeOf,typeInfo,hi,hd,hlen,hn1,hmax,hn2',hn3,Question.forced,hold,hfc,zeroValue,hz,newRow]
 all_goals (congr 2;apply Array.ext';simp)
end

def z1X{C:Cx}(hw:Wd C H)(h:Nat){so:SObj}(hso:H[h]?=some so)(hsl:so.live=true):Wd C (H.set h .dead)∧Ext ⟨C,H⟩ C (H.set h .dead):=by
 have hget:∀ {h':Nat} {x:SObj},(H.set h SObj.dead)[h']?=some x->x.live=true->H[h']?=some x:=by
  intro h' x hx hl;by_cases e:h'=h
  . subst e;rcases AI h' H.length with h1|h1
    . rw [Ar h1] at hx;cases hx;simp [SObj.live] at hl
    rw [AW (by simp;omega)] at hx;cases hx
  rwa [Aq (Ne.symm e)] at hx
 have hown:∀b,OwnB C (H.set h .dead) b->OwnB C H b:=fun b ⟨h',x,hx,hl,hb⟩=>⟨h',x,hget hx hl,hl,hb⟩
 refine ⟨⟨by simp [hw.n],fun h' x hx=> ?_,fun b hb=>hw.own b (hown b hb),fun h1 h2 x x' b hx hx' hl hl'=>hw.inj h1 h2 x x' b (hget hx hl) (hget hx' hl') hl hl',hw.imm⟩,
  ⟨Evo.refl _,Af _,rfl,rfl,rfl,fun _ _ _=>rfl,fun _ h=>.inl h,fun b hb=>.inr (hown b hb),fun _ _ hn=>q3R hso hsl hn⟩⟩
 by_cases hl:x.live=true
 . exact hw.obj h' x (hget hx hl)
 cases x<;>first|trivial|simp [SObj.live] at hl

def z2X{C:Cx}(hw:Wd C H)(hb:Option Nat)(so:SObj)(hlive:∀b,hb=some b->¬C.I b∧b<C.w.heap.size∧¬OwnB C H b)
 (C':Cx)(hC:C'={C with ρ:=(fun h=>if h=C.n then hb else C.ρ h),n:=C.n+1})(hs:objDen C' C.n so):Wd C' (H++ [so])∧Evo C C'∧(∀b,OwnB C' (H++ [so]) b->OwnB C H b∨hb=some b):=by
 subst hC;have he:Evo C {C with ρ:=(fun h=>if h=C.n then hb else C.ρ h),n:=C.n+1}:=⟨CE _,fun h hh=>by simp only;rw [if_neg (by omega)],Keeps.refl _ _,fun _ _ h=>h⟩
 have hown:∀b,OwnB {C with ρ:=(fun h=>if h=C.n then hb else C.ρ h),n:=C.n+1} (H++ [so]) b->OwnB C H b∨hb=some b:=by
  rintro b ⟨h,x,hx,hl,hbx⟩;rcases q0p hx with ⟨h1,h2⟩ | ⟨h1,h2⟩
  . refine .inl ⟨h,x,h2,hl,?_⟩;simp only at hbx;rwa [if_neg (by rw [hw.n];omega)] at hbx
  subst h1;simp only at hbx;rw [if_pos hw.n.symm] at hbx;exact .inr hbx
 refine ⟨⟨by simp [hw.n],?_,?_,?_,hw.imm⟩,he,hown⟩
 . intro h x hx;rcases q0p hx with ⟨h1,h2⟩ | ⟨h1,h2⟩
   . exact q0E he.I h (he.ρ h (by rw [hw.n];exact h1)) (fun _ _=>rfl) (q0h he) (hw.obj h x h2)
   subst h2;rw [h1,<-hw.n];exact hs
 . intro b hbb;rcases hown b hbb with h1|h1
   . exact hw.own b h1
   have:=hlive b h1;exact ⟨this.1,this.2.1⟩
 intro h h' x x' b hx hx' hl hl' hbb hbb';rcases q0p hx with ⟨h1,h2⟩ | ⟨h1,h2⟩ <;>rcases q0p hx' with ⟨h1',h2'⟩ | ⟨h1',h2'⟩
 . simp only at hbb hbb';rw [if_neg (by rw [hw.n];omega)] at hbb hbb';exact hw.inj h h' x x' b h2 h2' hl hl' hbb hbb'
 . exfalso;simp only at hbb hbb';rw [if_neg (by rw [hw.n];omega)] at hbb;rw [if_pos (by rw [h1',hw.n])] at hbb';exact (hlive b hbb').2.2 ⟨h,x,h2,hl,hbb⟩
 . exfalso;simp only at hbb hbb';rw [if_neg (by rw [hw.n];omega)] at hbb';rw [if_pos (by rw [h1,hw.n])] at hbb;exact (hlive b hbb).2.2 ⟨h',x',h2',hl',hbb'⟩
 omega
end
section
open Go

variable [Ghost] {P:Program} {o:Oper} {ev:Operand->SV} {H:List SObj} {K:Out->List SObj->Prop} {t:Ty}

variable {C:Cx}
def q3J(hw:Wd C H){xs:List t.den}{vs rest:List Value}{T:TypeId}{n c:Nat}(hr:relL C.I C.w t xs vs)(_hn:n=xs.length)(hnc:n<=c)(hc:c*t.size<=vs.length+rest.length):
 Wd (C.grow (.cells (vs++rest).toArray T)) (H++ [.row t xs])∧Ext ⟨C,H⟩ (C.grow (.cells (vs++rest).toArray T)) (H++ [.row t xs])∧
  (SV.bld H.length t n).den (C.grow (.cells (vs++rest).toArray T)) (.slice (some ⟨C.w.heap.size,0,none⟩) n c):=by
 have he:=q6C hw.imm (.cells (vs++rest).toArray T);have hl:=q0Q hr
 obtain ⟨g1,g2⟩:=q5H hw (.cells (vs++rest).toArray T) (.row t xs) (by
  refine .inr ⟨C.w.heap.size,(vs++rest).toArray,T,(0,0),by simp [Cx.grow],q1y _ _,by simp,by simp [<-hl],?_⟩;refine q3W (q3b he.I hr) fun j u hu=> ?_;have:(C.grow (.cells (vs++rest).toArray T)).w.heap[C.w.heap.size]?=some (.cells (vs++rest).toArray T):=q1y _ _;rw [Ae,q0o this,Ai (Ag.1 hu).1]
  exact hu)
 refine ⟨g1,g2,?_⟩;rw [SV.den];refine ⟨by simp [Cx.grow,hw.n],.inr ⟨C.w.heap.size,c,(vs++rest).length,by simp [Cx.grow,hw.n],rfl,hnc,?_,by simpa using hc⟩⟩;unfold World.bsize;rw [show (C.grow (.cells (vs++rest).toArray T)).w.heap[C.w.heap.size]?=some (.cells (vs++rest).toArray T) from q1y _ _];simp

theorem z1P(hw:Wd C H):∃C',C'.w=C.w∧Wd C' (H++ [.row t []])∧Ext ⟨C,H⟩ C' (H++ [.row t []])∧(SV.bld H.length t 0).den C' (.slice none 0 0):=by obtain ⟨g1,g2,g3⟩:=z2X hw none (.row t []) (fun b h=>by cases h) _ rfl (.inl ⟨by simp,rfl⟩);refine ⟨{C with ρ:=(fun h=>if h=C.n then none else C.ρ h),n:=C.n+1},rfl,g1,⟨g2,Af _,rfl,rfl,rfl,fun _ _ _=>rfl,fun _ h=>.inl h,fun b hb=>(g3 b hb).elim .inr (fun h=>by cases h),fun _ _ hn=>q5m hn⟩,?_⟩;rw [SV.den];exact ⟨by simp [hw.n],.inl ⟨by simp [hw.n],rfl,rfl⟩⟩

def dstOf(t:Ty)(H:List SObj):SV->Option (List SObj×List t.den×Nat)
 |.raw (.slice none 0 0)=>some (H,[],0)
 |.bld h t' n=>match H[h]? with
  |some (.row t'' xs)=>if h':t''=t∧t'=t then some (H.set h .dead,cast (by rw [h'.1]) xs,n) else none
  |_=>none
 |_=>none

def Src(P:Program)(t:Ty)(C:Cx)(v:Value)(ys:List t.den):Prop:=
 ∃news,relL C.I C.w t ys news∧(Builtin.lenOf v).run P C.w= .ok ys.length C.w∧(Builtin.firstCells t.size ys.length v).run P C.w= .ok news.toArray C.w

theorem z4V{s:SV}{v xv:Value}{tS tX ty e:TypeId}{i:TypeInfo}{z:Value}{bb:Bool}{Hk:List SObj}{xs ys:List t.den}{n:Nat}
 (hw:Wd C H)(hd:s.den C v)(hdst:dstOf t H s=some (Hk,xs,n))(hn:n=xs.length)(hsrc:Src P t C xv ys)(hsrc':Src P t C.drew xv ys)
 (ht:P.underlying tS=some (.slice e))(hx:srcType P tX=some bb)(hi:P.info? e=some i)(hsz:i.size=t.size)(hz:i.zero=some z)(hzs:z.cells.size=t.size)
 (h63:xs.length+ys.length<=1125899906842624)(hb:(xs.length+ys.length)*i.bytes<=140737488355328):
 ∃r C',(Builtin.append_ #[tS,tX] ty #[v,xv]).run P C.w= .ok r C'.w∧Wd C' (Hk++ [.row t (xs++ys)])∧Ext ⟨C,H⟩ C' (Hk++ [.row t (xs++ys)])∧(SV.bld H.length t (xs.length+ys.length)).den C' r:=by
 obtain ⟨news,hr,hlen,hfc⟩:=hsrc;obtain ⟨news',hr',hlen',hfc'⟩:=hsrc';rw [<-hsz] at hfc hfc'
 -- a new array, after what is of the old one has been read
 have grow:∀ (C0:Cx) (H0:List SObj),Wd C0 H0->C0.w=C.w.drew->C0.I=C.I->Ext ⟨C,H⟩ C0 H0->H0.length=H.length->∀ (base:Option Addr) (sCap:Nat) (old:List Value),sCap<xs.length+ys.length->relL C0.I C0.w t xs old->
  (Builtin.firstCells i.size xs.length (.slice base xs.length sCap)).run P C.w.drew= .ok old.toArray C.w.drew->
  ∃r C',(Builtin.append_ #[tS,tX] ty #[.slice base xs.length sCap,xv]).run P C.w= .ok r C'.w∧Wd C' (H0++ [.row t (xs++ys)])∧Ext ⟨C,H⟩ C' (H0++ [.row t (xs++ys)])∧(SV.bld H.length t (xs.length+ys.length)).den C' r:=by
  intro C0 H0 hw0 hC0 hI0 hx0 hl0 base sCap old hcap hold hfold;obtain ⟨cap,hc,hrun⟩:=q3B (P:=P) (w:=C.w) (ty:=ty) ht hx hi hz hlen hcap (by omega) hb hfold hfc';have hrel:relL C0.I C0.w t (xs++ys) (old++news'):=q1B hold (by rw [hC0,hI0];exact hr');have hll:=q0Q hrel
  obtain ⟨g1,g2,g3⟩:=q3J (T:=e) (rest:=(Builtin.zeroCells z.cells (cap- (xs.length+ys.length))).toList) hw0 (n:=xs.length+ys.length) (c:=cap) hrel (by simp) hc (by
   rw [hll];simp only [Au,size_zeroCells,hzs,Ab,<-Nat.add_mul]
   exact A4 _ (by omega))
  refine ⟨_,_,?_,g1,hx0.trans g2,by rw [<-hl0];exact g3⟩;rw [hrun];simp only [Cx.grow,hC0];have:C.w.drew.heap.size=C.w.heap.size:=rfl;rw [this]
 have nilcase:∀ (H0:List SObj),Wd C H0->Ext ⟨C,H⟩ C H0->H0.length=H.length->xs= []->v= .slice none 0 0->
  ∃r C',(Builtin.append_ #[tS,tX] ty #[v,xv]).run P C.w= .ok r C'.w∧Wd C' (H0++ [.row t (xs++ys)])∧Ext ⟨C,H⟩ C' (H0++ [.row t (xs++ys)])∧(SV.bld H.length t (xs.length+ys.length)).den C' r:=by
  rintro H0 hw0 hx0 hl0 rfl rfl;by_cases hy:ys.length=0
  . obtain rfl:ys= []:=A5 hy;have hrun:=q8k (P:=P) (ty:=ty) ht hx hi hlen hfc;obtain ⟨C',hC',g1,g2,g3⟩:=z1P (t:=t) hw0;exact ⟨_,C',by rw [hrun,hC'],g1,hx0.trans g2,by rw [<-hl0];exact g3⟩
  have:=grow C.drew H0 (q2A hw0) rfl rfl (hx0.trans (q1H C H0)) hl0 none 0 [] (by simp;omega) rfl (by simp [Builtin.firstCells]);simpa using this
 unfold dstOf at hdst;split at hdst
 . cases hdst;rw [SV.den] at hd;exact nilcase H hw (Ext.refl _ _) rfl rfl hd
 . split at hdst
   . split at hdst
     . rename_i h t' n' _ t'' xs' hH hT;obtain ⟨rfl,rfl⟩:=hT;cases hdst;simp only [cast_eq] at*;obtain ⟨k1,k2⟩:=z1X hw h hH rfl;rw [SV.den] at hd;obtain ⟨hhn,hd⟩:=hd;rcases hw.obj h _ hH with ⟨h1,h2⟩ | ⟨b,arr,T,fz,hb',hcell,hfz,hsize,hrow⟩
       . subst h2;rcases hd with ⟨_,_,rfl⟩ | ⟨b,_,_,hb',_⟩
         . exact nilcase (H.set h .dead) k1 k2 (by simp) rfl rfl
         rw [h1] at hb';cases hb'
       rcases hd with ⟨h1,_⟩ | ⟨b2,c,m,hb2,rfl,hnc,hm,hcm⟩
       . rw [h1] at hb';cases hb'
       rw [hb'] at hb2;cases hb2;subst hn;have hm':m=arr.size:=by unfold World.bsize at hm;rw [hcell] at hm;simpa using hm.symm
       subst hm';have hll:=q0Q hr;by_cases hroom:xs'.length+ys.length<=c
       . -- there is room
         have hle:(xs'.length+ys.length)*t'.size<=arr.size:=As (A4 _ hroom) hcm;have eL:arr.toList.length=arr.size:=Au;have hfit:xs'.length*i.size+news.length<=arr.toList.length:=by rw [eL,hsz,hll,<-Nat.add_mul];exact hle
         have hst:(storeCells ⟨b,xs'.length*i.size,none⟩ news 0).run P C.w= .ok () (C.w.setCells b (xs'.length*i.size+0) news):=run_storeCells_cells b _ news 0 C.w
          (fun j hj=>by
           have hj2:xs'.length*i.size+0+j<arr.size:=by omega
           simp only [World.cell?,hcell]
           rw [BL hj2];rfl)
          (fun j hj=>by
           have hj2:xs'.length*i.size+0+j<arr.size:=by omega
           have:=hfz _ hj2;simp only [World.frozen?,hcell];rw [BU];simp only [decide_eq_false_iff_not]
           omega)
          (q8W hr)
         rw [AB] at hst;have hrun:=q7I (P:=P) (ty:=ty) ht hx hi hlen hfc hroom hst;have hcell':C.w.heap[b]?=some (.cells arr.toList.toArray T fz):=by rw [hcell]
         have hnew:=q1O news (xs'.length*i.size) C.w arr.toList hcell' hfit;have hI':Keeps C.I C.I C.w (C.w.setCells b (xs'.length*i.size) news):=fun b' hi'=>⟨hi',q0B (fun (eq:b'=b)=>(hw.own b ⟨h,_,hH,rfl,hb'⟩).1 (eq▸hi')) _ _ _⟩;have hbsz:World.bsize (C.w.setCells b (xs'.length*i.size) news) b=some arr.size:=by unfold World.bsize;rw [hnew];simp only [AR];rw [q0u hfit,Au]
         obtain ⟨vs,v1,v2⟩:=q8c hrow;have hvl:=q0Q v1;have hobj:∀ (C':Cx) (hh:Nat),C'.I=C.I->C'.w=C.w.setCells b (xs'.length*i.size) news->C'.ρ hh=some b->objDen C' hh (.row t' (xs'++ys)):=by
          intro C' hh e1 e2 e3;refine .inr ⟨b,(splice arr.toList (xs'.length*i.size) news).toArray,T,fz,e3,by rw [e2];exact hnew,?_,?_,?_⟩
          . rw [AR,q0u hfit,Au];exact hfz
          . rw [AR,q0u hfit,Au];simpa using hle
          rw [e1,e2];refine q3W (q3b hI' (q1B v1 hr)) fun j u hu=> ?_;rw [Ae,q0o hnew];unfold splice;rw [hsz];rcases AI j vs.length with hj|hj
          . rw [Ai hj] at hu;have hc2:=v2 j u hu;rw [Ae] at hc2;have hc3:arr.toList[j]?=some u:=by simpa [World.cell?,hcell] using hc2
            rw [Ai (by simp;omega),Ai (by simp;omega),AN,if_pos (by omega)];exact hc3
          rw [Ao hj] at hu;have hjl:=(Ag.1 hu).1;have hmin:(arr.toList.take (xs'.length*t'.size)).length=vs.length:=by rw [Ak,eL,hvl,Bj hsize]
          rw [Ai (by rw [Ab,hmin];omega),Ao (by rw [hmin];omega),hmin];exact hu
         obtain ⟨u1,u2,u3⟩:=z1h (so':=.row t' (xs'++ys)) hw hH rfl rfl hb' (C.w.setCells b (xs'.length*i.size) news) (fun b' hb'=>q0B hb' _ _ _) (q1m _ _ _)
          (fun m hm=>by rw [hbsz];unfold World.bsize at hm;rw [hcell] at hm;simpa using hm)
          (q1V _ _ _) (q1o _ _ _) (q0Z _ _ _) (hobj _ h rfl rfl hb')
         obtain ⟨q1,q2⟩:=z1X u1 h (so:=.row t' (xs'++ys)) (Ar (Ag.1 hH).1) rfl;have hnown:¬OwnB {C with w:=C.w.setCells b (xs'.length*i.size) news} ((H.set h (.row t' (xs'++ys))).set h .dead) b:=by
          rintro ⟨h',x,hx',hl',hb3⟩;have hne:h'≠h:=fun e=>by subst e;rw [Ar (by simp;exact (Ag.1 hH).1)] at hx';cases hx';simp [SObj.live] at hl'
          rw [Aq (Ne.symm hne),Aq (Ne.symm hne)] at hx';exact hne (hw.inj h' h x _ b hx' hH hl' rfl hb3 hb')
         obtain ⟨m1,m2,m3⟩:=z2X q1 (some b) (.row t' (xs'++ys)) (fun b' e=>by
          cases e;have:=u1.own b ⟨h,_,Ar (Ag.1 hH).1,rfl,hb'⟩
          exact ⟨this.1,this.2,hnown⟩) _ rfl (hobj _ _ rfl rfl (by simp))
         rw [List.set_set] at m1 m3;refine ⟨_,_,hrun,m1,?_,?_⟩
         . refine ⟨u3.trans m2,by show C.w.heap.size<=(C.w.setCells b (xs'.length*i.size) news).heap.size;rw [q1m];exact Af _,q1V _ _ _,q1o _ _ _,q0Z _ _ _,fun b' _ hno=>q0B (fun (eq:b'=b)=>hno (eq▸ ⟨h,_,hH,rfl,hb'⟩)) _ _ _,fun _ h=>.inl h,fun b' hb3=>.inr ?_,fun _ _ hn=>q5m (q3R hH rfl hn)⟩;rcases m3 b' hb3 with ⟨h',x,hx',hl',hb4⟩ |h1
           . have hne:h'≠h:=fun e=>by subst e;rw [Ar (Ag.1 hH).1] at hx';cases hx';simp [SObj.live] at hl'
             rw [Aq (Ne.symm hne)] at hx';exact ⟨h',x,hx',hl',hb4⟩
           cases h1;exact ⟨h,_,hH,rfl,hb'⟩
         rw [SV.den];refine ⟨by simp [hw.n],.inr ⟨b,c,arr.size,by simp [hw.n],rfl,hroom,hbsz,hcm⟩⟩
       -- a new array
       obtain ⟨vs,v1,v2⟩:=q1D (P:=P) (C:=C.drew) (A:=some ⟨b,0,none⟩) (c:=c) (ys:=xs') (.inr ⟨b,0,rfl,fun j x hx'=>by
        obtain ⟨us,a1,a2⟩:=hrow j x hx'
        exact ⟨us,Ty.rel_keep (q2m C).I _ _ _ a1,a2⟩⟩)
       rw [<-hsz] at v2;have:=grow C.drew (H.set h .dead) (q2A k1) rfl rfl (k2.trans (q1H C _)) (by simp) (some ⟨b,0,none⟩) c vs (by omega) v1 v2;exact this
     cases hdst
   cases hdst
 cases hdst
end
section
open Go

variable [Ghost] {P:Program} {o:Oper} {ev:Operand->SV} {H:List SObj} {K:Out->List SObj->Prop} {t:Ty}

def bytesOf(s:ByteArray):List UInt8:=s.data.toList
theorem q4f(I:Nat->Prop)(w:World):∀ (xs:List UInt8),relL I w .u8 xs (xs.map fun b=>.int .u8 b.toNat)
 | []=>rfl
 |x :: xs=>⟨[.int .u8 x.toNat],_,rfl,rfl,q4f I w xs⟩

def srcS(t:Ty)(H:List SObj):SV->Option (List t.den×Prop)
 |.raw (.string s)=>if h:t= .u8 then some (cast (by rw [h]) (bytesOf s),True) else none
 |.bld h t' n=>match srcOf t H (.bld h t' n),H[h]? with
  |some ys,some (.row _ xs)=>some (ys,n<=xs.length)
  |_,_=>none
 |.osl h t' off n=>match srcOf t H (.osl h t' off n),H[h]? with
  |some ys,some (.row _ xs)=>some (ys,off+n<=xs.length)
  |_,_=>none
 |s=>(srcOf t H s).map (·,True)

variable {p:Prop}
theorem z3h{C:Cx}{y:SV}{v:Value}{ys:List t.den}(hw:Wd C H)(hd:y.den C v)(hs:srcS t H y=some (ys,p))(hp:p):Src P t C v ys:=by
 have gen:srcOf t H y=some ys->(∀h t' off n xs,(y= .osl h t' off n∨(y= .bld h t' n∧off=0))->H[h]?=some (.row t xs)->off+n<=xs.length)->Src P t C v ys:=by intro h1 h2;obtain ⟨A,c,news,rfl,g1,g2⟩:=z8q (P:=P) hw hd h1 h2;exact ⟨news,g1,by simp [Builtin.lenOf],g2⟩
 unfold srcS at hs;split at hs
 . split at hs
   . rename_i s h;subst h;cases hs;rw [SV.den] at hd;subst hd;refine ⟨_,q4f _ _ _,?_,?_⟩
     . simp [Builtin.lenOf,bytesOf]
     simp only [cast_eq,Builtin.firstCells,bytesOf];have:s.extract 0 s.data.toList.length=s:=by
      have:s.data.toList.length=s.size:=by simp
      rw [this];exact ByteArray.extract_zero_size
     rw [this];simp [<-Array.toList_map]
   cases hs
 . split at hs
   . rename_i h t' n _ _ ys' _ xs e1 e2;cases hs;refine gen e1 ?_;rintro h2 t2 off n2 xs2 (e| ⟨e,rfl⟩) hH
     . cases e
     cases e;rw [e2] at hH;cases hH;omega
   cases hs
 . split at hs
   . rename_i h t' off n _ _ ys' _ xs e1 e2;cases hs;refine gen e1 ?_;rintro h2 t2 off2 n2 xs2 (e| ⟨e,rfl⟩) hH
     . cases e;rw [e2] at hH;cases hH;exact hp
     cases e
   cases hs
 rename_i h1 h2 h3;cases hso:srcOf t H y with
 |none=>simp [hso] at hs
 |some ys'=>
  simp [hso] at hs;obtain ⟨rfl,_⟩:=hs;refine gen hso ?_;rintro h t2 off n xs (e| ⟨e,_⟩) _
  . exact (h3 _ _ _ _ e).elim
  exact (h2 _ _ _ e).elim

def z5w{c:Call}{x y:Operand}{tS tX e:TypeId}{bb:Bool}{i:TypeInfo}{z:Value}{Hk:List SObj}{xs ys:List t.den}{n:Nat}(hop:o.op= .call c)(hc:c.callee= .builtin .append)(ha:c.args= #[x,y])(hty:c.argTypes= #[tS,tX])
 (ht:P.underlying tS=some (.slice e))(hx:srcType P tX=some bb)(hi:P.info? e=some i)(hsz:i.size=t.size)(hz:i.zero=some z)(hzs:z.cells.size=t.size)
 (hdst:dstOf t H (ev x)=some (Hk,xs,n))(hn:n=xs.length)(hsrc:srcS t H (ev y)=some (ys,p))(hp:p)
 (h63:xs.length+ys.length<=1125899906842624)(hb:(xs.length+ys.length)*i.bytes<=140737488355328)
 (hk:K (.ret (.bld H.length t (xs.length+ys.length))) (Hk++ [.row t (xs++ys)])):OpV P o ev H K:=by
 refine q0O (by rw [hop];intro c hc;cases hc) fun C e' hw hv=> ?_;have h0:=hv x (by rw [hop];simp [Op.operands,Call.operands,hc,ha]);have h1:=hv y (by rw [hop];simp [Op.operands,Call.operands,hc,ha]);obtain ⟨r,C',hrun,g1,g2,g3⟩:=z4V (P:=P) (ty:=o.type) (tS:=tS) (tX:=tX) hw h0 hdst hn (z3h hw h1 hsrc hp) (z3h (q2A hw) (q0Y (q2m C) h1) hsrc hp) ht hx hi hsz hz hzs h63 hb;exact ⟨_,r,_,C',hk,.inl (by simp [execOp,hop,resolve,hc,ha,hty,invoke,builtin,hrun,Result.andThen]),g1,g2,g3⟩

def rdL(t:Ty):Nat->List SV->Option (List t.den×Prop)
 |0,[]=>some ([],True)
 |n+1,cs=>match t.rd (cs.take t.size),rdL t n (cs.drop t.size) with
  |some (x,p),some (xs,q)=>some (x :: xs,p∧q)
  |_,_=>none
 |0,_=>none
theorem q9K{C:Cx}:∀ (n:Nat) (cs:List SV) (xs:List t.den) (p:Prop) (vs:List Value),rdL t n cs=some (xs,p)->p->SV.denL C cs vs->relL C.I C.w t xs vs∧xs.length=n
 |0,[],xs,p,vs,h,_,hd=>by cases h;exact ⟨by rw [q0y] at hd;exact hd,rfl⟩
 |0,_ :: _,xs,p,vs,h,_,_=>by simp [rdL] at h
 |n+1,cs,xs,p,vs,h,hp,hd=>by
  simp only [rdL] at h;split at h
  . rename_i x1 p1 y1 q1 h1 h2;cases h;rw [<-AJ t.size cs] at hd;obtain ⟨v1,v2,rfl,d1,d2⟩:=q0x.1 hd;obtain ⟨g1,g2⟩:=q9K n _ _ _ _ h2 hp.2 d2;exact ⟨⟨v1,v2,rfl,t.rd_rel _ _ _ _ h1 hp.1 d1,g1⟩,by simp [g2]⟩
  cases h

variable {parts:Array (Nat×Operand)}{cs:List SV}
def q2O{C:Cx}{e:Operand->Value}(hv:∀p∈parts.toList,(ev p.2).den C (e p.2)){pl:PlaceK}{zs:List Value}(hf:fillS pl.fn (rawL zs) (parts.toList.map fun p=>(p.1,ev p.2))=some cs):
 ∃us,Instr.fill pl.fn zs.toArray (parts.map fun p=>(p.1,e p.2)).toList=some us.toArray∧SV.denL C cs us:=by
 have hparts:SV.denL C ((parts.toList.map fun p=>(p.1,ev p.2)).map (·.2)) ((parts.toList.map fun p=>(p.1,e p.2)).map (·.2)):=by
  simp only [BS]
  have:=q1R (C:=C) (ev:=ev) (e:=e) (parts.toList.map (·.2)) (fun x hx=>by
   obtain ⟨p,hp,rfl⟩:=By.1 hx
   exact hv p hp)
  simp only [BS] at this;exact this
 obtain ⟨us,h1,h2⟩:=q7M (C:=C) (qs:=parts.toList.map fun p=>(p.1,e p.2)) (q1n zs) (by simp) hparts hf;exact ⟨us,by rw [<-h1];simp,h2⟩

def zerosOf(P:Program)(e:TypeId)(len:Nat):Option (List Value):=
 match P.info? e with
 |some i=>match i.zero with
  |some z=>if len*i.size<=16777216 then some ((Array.range (len*i.size)).map (fun j=>(if len*i.size=0 then #[] else z.cells)[j% (if len*i.size=0 then #[] else z.cells).size]!)).toList else none
  |none=>none
 |none=>none

theorem q8j{T e:TypeId}{len sz:Nat}{zs:List Value}{xs:List t.den}(hop:o.op= .buildSlice T len parts)(ht:P.underlying T=some (.slice e))(hs:(P.info? e).map (·.size)=some sz)
 (hz:zerosOf P e len=some zs)(hf:fillS (PlaceK.arr sz).fn (rawL zs) (parts.toList.map fun p=>(p.1,ev p.2))=some cs)(hr:rdL t len cs=some (xs,p))(hp:p)
 (hk:K (.ret (.bld H.length t len)) (H++ [.row t xs])):OpV P o ev H K:=by
 refine q0O (by rw [hop];intro c hc;cases hc) fun C e' hw hv=> ?_;rw [hop] at hv;simp only [Op.operands] at hv;obtain ⟨us,h1,h2⟩:=q2O (C:=C) (e:=e') (parts:=parts) (fun q hq=>hv q.2 (by simpa using ⟨q.1,by simpa using hq⟩)) hf;obtain ⟨g1,g2⟩:=q9K len cs xs p us hr hp h2;obtain ⟨q1,q2,q3⟩:=q3J (T:=e) (rest:=[]) hw (n:=len) (c:=len) g1 g2.symm (Af _) (by rw [q0Q g1,g2];exact Af _);refine ⟨_,_,_,_,hk,.inl ?_,q1,q2,q3⟩;unfold zerosOf at hz;cases hi:P.info? e with
 |none=>simp [hi] at hz
 |some i=>
  simp only [hi] at hz;cases hz0:i.zero with
  |none=>simp [hz0] at hz
  |some z=>
   simp only [hz0] at hz;split at hz
   . rename_i hle;have hsi:i.size=sz:=by simpa [hi] using hs
     cases hz;simp only [execOp,hop,Sem.run_bind,Instr.buildSlice,run_underlying' ht,Result.andThen,q0m hs,Sem.run_ite];rw [hsi] at h1 hle;rw [if_neg (by omega)];have hzr:(zeroValue e).run P C.w= .ok z C.w:=by simp [zeroValue,typeInfo,hi,hz0]
     have h1':=h1;simp only [CF] at h1';by_cases h0:len*sz=0
     . simp only [if_pos h0,Sem.run_pure] at h1'⊢
       erw [h1']
       simp [newRow,Cx.grow]
     simp only [if_neg h0,hzr,Sem.run_pure] at h1'⊢
     erw [h1']
     simp [newRow,Cx.grow]
   cases hz
theorem j3l{T e:TypeId}{len:Nat}{zs:List Value}(hop:o.op= .buildSlice T len parts)(ht:P.underlying T=some (.slice e))(hs:(P.info? e).map (·.size)=some 1)
 (hz:zerosOf P e len=some zs)(hf:fillS (PlaceK.arr 1).fn (rawL zs) (parts.toList.map fun p=>(p.1,ev p.2))=some cs)(hk:K (.ret (.csl H.length .u8 0 0 len)) (H++ [.cells e cs])):OpV P o ev H K:=by
 refine q0O (by rw [hop];intro c hc;cases hc) fun C e' hw hv=> ?_;rw [hop] at hv;simp only [Op.operands] at hv;obtain ⟨us,h1,h2⟩:=q2O (C:=C) (e:=e') (parts:=parts) (fun q hq=>hv q.2 (by simpa using ⟨q.1,by simpa using hq⟩)) hf;obtain ⟨q1,q2⟩:=q5H hw (.cells us.toArray e) (.cells e cs) (q5T hw.imm e h2);refine ⟨_,.slice (some ⟨C.w.heap.size,0,none⟩) len len,_,_,hk,.inl ?_,q1,q2,?_⟩
 . unfold zerosOf at hz;cases hi:P.info? e with
   |none=>simp [hi] at hz
   |some i=>
    simp only [hi] at hz;cases hz0:i.zero with
    |none=>simp [hz0] at hz
    |some z=>
     simp only [hz0] at hz;split at hz
     . rename_i hle;have hsi:i.size=1:=by simpa [hi] using hs
       cases hz;simp only [execOp,hop,Sem.run_bind,Instr.buildSlice,run_underlying' ht,Result.andThen,q0m hs,Sem.run_ite];rw [hsi] at h1 hle;rw [if_neg (by omega)];have hzr:(zeroValue e).run P C.w= .ok z C.w:=by simp [zeroValue,typeInfo,hi,hz0]
       have h1':=h1;simp only [CF] at h1';by_cases h0:len*1=0
       . simp only [if_pos h0,Sem.run_pure] at h1'⊢
         erw [h1']
         simp [newRow,Cx.grow]
       simp only [if_neg h0,hzr,Sem.run_pure] at h1'⊢
       erw [h1']
       simp [newRow,Cx.grow]
     cases hz
 rw [SV.den];exact ⟨by simp [Cx.grow,hw.n],_,len,rfl,Af _,.inr ⟨C.w.heap.size,by simp [Cx.grow,hw.n],by simp⟩⟩
end
section
open Go

variable [Ghost] {P:Program} {o:Oper} {ev:Operand->SV} {H:List SObj} {K:Out->List SObj->Prop} {t:Ty}

def bndV(ev:Operand->SV):Option Operand->Option (Option Int)
 |none=>some none
 |some x=>match ev x with
  |.raw (.int _ n)=>some (some n)
  |_=>none

variable {C:Cx}{e:Operand->Value}{x:Operand}
theorem q6a{n:Int}(hd:(ev x).den C (e x))(h:bndV ev (some x)=some (some n))(y:Nat)(code:BoundsCode)(w:World)(h0:0<=n)(hy:n.toNat<=y):
 (Instr.sliceBound (e x) y code).run P w= .ok n.toNat w:=by
 simp only [bndV] at h;split at h
 . rename_i k m hx;simp at h;subst h;rw [hx,SV.den] at hd;have:m<=(y:Int):=by omega
   simp [Instr.sliceBound,hd,asIntOf,h0,this]
 cases h

def loOf:Option Int->Int
 |none=>0
 |some a=>a
def hiOf(n:Nat):Option Int->Int
 |none=>n
 |some a=>a

theorem q3q{lo hi:Option Operand}{a b:Option Int}{isS:Bool}{len cap:Nat}(hlo:∀x∈lo,(ev x).den C (e x))(hhi:∀x∈hi,(ev x).den C (e x))(h1:bndV ev lo=some a)(h2:bndV ev hi=some b)(w:World)
 (g0:0<=loOf a)(g1:loOf a<=hiOf len b)(g2:hiOf len b<=cap):
 (Instr.sliceBounds isS len cap (lo.map e) (hi.map e) none).run P w= .ok ((loOf a).toNat,(hiOf len b).toNat,cap) w:=by
 have h0':0<=hiOf len b:=by omega
 unfold Instr.sliceBounds;cases hi with
 |none=>
  simp only [bndV,Option.some.injEq] at h2;subst h2;cases lo with
  |none=>simp only [bndV,Option.some.injEq] at h1;subst h1;simp [loOf,hiOf]
  |some x=>
   cases a with
   |none=>simp only [bndV] at h1;split at h1<;>simp at h1
   |some n=>simp only [loOf,hiOf] at*;have:=q6a (P:=P) (hlo x rfl) h1 len (.sliceB) w g0 (by omega);simp [this]
 |some y=>
  cases b with
  |none=>simp only [bndV] at h2;split at h2<;>simp at h2
  |some m=>
   simp only [hiOf] at*;have hh:=q6a (P:=P) (hhi y rfl) h2 cap (if isS then .sliceAcap else .sliceAlen) w h0' (by omega);cases lo with
   |none=>simp only [bndV,Option.some.injEq] at h1;subst h1;simp [loOf,hh]
   |some x=>
    cases a with
    |none=>simp only [bndV] at h1;split at h1<;>simp at h1
    |some n=>simp only [loOf] at*;have:=q6a (P:=P) (hlo x rfl) h1 m.toNat (.sliceB) w g0 (by omega);simp [hh,this]

def sliceTo(a b:Nat):SV->Option SV
 |.isl t xs=>some (.isl t ((xs.take b).drop a))
 |.raw (.string s)=>some (.raw (.string (s.extract a b)))
 |.bld h t _=>some (.osl h t a (b-a))
 |.osl h t off _=>some (.osl h t (off+a) (b-a))
 |.csl h t k i _=>some (.csl h t k (i+a) (b-a))
 |.raw (.slice none 0 0)=>some (.raw (.slice none 0 0))
 |_=>none
def lenOfS:SV->Nat
 |.isl _ xs=>xs.length
 |.raw (.string s)=>s.size
 |.bld _ _ n=>n
 |.osl _ _ _ n=>n
 |.csl _ _ _ _ n=>n
 |_=>0
def sliceKind(P:Program)(T:TypeId):SV->Bool
 |.raw (.string _)=>match P.underlying T with|some .string=>true|_=>false
 |.isl t _=>match P.underlying T with|some (.slice e)=>(P.info? e).map (·.size)==some t.size|_=>false
 |.bld _ t _=>match P.underlying T with|some (.slice e)=>(P.info? e).map (·.size)==some t.size|_=>false
 |.osl _ t _ _=>match P.underlying T with|some (.slice e)=>(P.info? e).map (·.size)==some t.size|_=>false
 |.raw (.slice none 0 0)=>match P.underlying T with|some (.slice e)=>(P.info? e).isSome|_=>false
 |.csl _ t _ _ _=>match P.underlying T with|some (.slice e)=>(P.info? e).map (·.size)==some t.size|_=>false
 |_=>false

theorem q2d{T:TypeId}{n:Nat}(h:(match P.underlying T with|some (.slice e)=>(P.info? e).map (·.size)==some n|_=>false)=true):∃e,P.underlying T=some (.slice e)∧(P.info? e).map (·.size)=some n:=by
 split at h
 . exact ⟨_,by assumption,by simpa using h⟩
 cases h

def z6b{xs:List t.den}{A:Option Addr}{c a b m:Nat}(hd:(SV.isl t xs).den C (.slice A xs.length c))(hab:a<=b)(hb:b<=xs.length)(hm:m=c):
 (SV.isl t ((xs.take b).drop a)).den C (.slice (if m=a then A else A.map (·.add (a*t.size))) (b-a) (m-a)):=by
 subst hm;rw [SV.den] at hd⊢;obtain ⟨A',n,c',e,hn,hc,hlim,hd⟩:=hd;simp only [List.cons.injEq,Value.slice.injEq,and_true] at e;obtain ⟨rfl,rfl,rfl⟩:=e;refine ⟨_,_,_,rfl,by simp;omega,by omega,by omega,?_⟩;by_cases hz:b-a=0
 . exact .inl (A5 (by simp;omega))
 rcases hd with rfl| ⟨blk,off,rfl,hI,hd⟩
 . simp at hb;omega
 refine .inr ⟨blk,off+a*t.size,?_,hI,fun i x hx=> ?_⟩
 . rw [if_neg (by omega)];simp [q0I]
 rw [AA,AN] at hx;split at hx
 . obtain ⟨us,h1,h2⟩:=hd (a+i) x hx;exact ⟨us,h1,fun k u hu=>by rw [<-h2 k u hu,Nat.add_mul];congr 2;omega⟩
 cases hx

theorem z8j{T:TypeId}{lo hi:Option Operand}{a b:Option Int}{s:SV}(hop:o.op= .slice T x lo hi none)(hk0:sliceKind P T (ev x)=true)(h1:bndV ev lo=some a)(h2:bndV ev hi=some b)
 (g0:0<=loOf a)(g1:loOf a<=hiOf (lenOfS (ev x)) b)(g2:hiOf (lenOfS (ev x)) b<=(lenOfS (ev x):Int))(hs:sliceTo (loOf a).toNat (hiOf (lenOfS (ev x)) b).toNat (ev x)=some s)(hk:K (.ret s) H):OpV P o ev H K:=by
 refine q0l (by rw [hop];intro c hc;cases hc) (s:=s) (fun C e _ hv=> ?_) hk;rw [hop] at hv;have hx:=hv x (by simp [Op.operands]);have hlo:∀y∈lo,(ev y).den C (e y):=fun y hy=>hv y (by simp [Op.operands];cases hy;simp);have hhi:∀y∈hi,(ev y).den C (e y):=fun y hy=>hv y (by simp [Op.operands];cases hy;simp);have hexec:∀r:Value,(Instr.sliceAt T (e x) (lo.map e) (hi.map e) none).run P C.w= .ok r C.w->(execOp e o).run P C.w= .ok (.value r) C.w:=fun r hr=>by simp [execOp,hop,hr]
 generalize hsx:ev x=sx at*;unfold sliceKind at hk0;split at hk0
 . rename_i str;split at hk0
   . rename_i hu;rw [SV.den] at hx;simp only [sliceTo,Option.some.injEq] at hs;subst hs;simp only [lenOfS] at*;have hb:=q3q (P:=P) (C:=C) (e:=e) (isS:=false) (len:=str.size) (cap:=str.size) hlo hhi h1 h2 C.w g0 g1 g2;refine ⟨_,hexec (.string (str.extract (loOf a).toNat (hiOf str.size b).toNat)) ?_,by rw [SV.den]⟩;simp [Instr.sliceAt,run_underlying' hu,Instr.slice,hx,hb]
   cases hk0
 . rename_i ty xs;obtain ⟨el,hu,hsz⟩:=q2d hk0;simp only [sliceTo,Option.some.injEq] at hs;subst hs;simp only [lenOfS] at*;have hx':=hx;rw [SV.den] at hx;obtain ⟨A,n,c,e0,hn,hc,hlim,hd⟩:=hx;simp only [List.cons.injEq,and_true] at e0;subst hn;have hb:=q3q (P:=P) (C:=C) (e:=e) (isS:=true) (len:=xs.length) (cap:=c) hlo hhi h1 h2 C.w g0 g1 (by omega);rw [e0] at hx';refine ⟨_,hexec _ ?_,z6b hx' (by omega) (by omega) rfl⟩;simp [Instr.sliceAt,run_underlying' hu,Instr.slice,e0,hb,q0m hsz]
 . rename_i h ty n;obtain ⟨el,hu,hsz⟩:=q2d hk0;simp only [sliceTo,Option.some.injEq] at hs;subst hs;simp only [lenOfS] at*;have hx:=q6c hx;rw [SV.den] at hx;obtain ⟨hn,A,c,e0,hc,hd⟩:=hx;have hb:=q3q (P:=P) (C:=C) (e:=e) (isS:=true) (len:=n) (cap:=c) hlo hhi h1 h2 C.w g0 g1 (by omega);refine ⟨.slice (if c=(loOf a).toNat then A else A.map (·.add ((loOf a).toNat*ty.size))) ((hiOf n b).toNat- (loOf a).toNat) (c- (loOf a).toNat),hexec _ ?_,?_⟩
   . simp [Instr.sliceAt,run_underlying' hu,Instr.slice,e0,hb,q0m hsz]
   rw [SV.den];refine ⟨hn,_,_,rfl,by omega,?_⟩;by_cases hz:(hiOf n b).toNat- (loOf a).toNat=0
   . exact .inl hz
   rcases hd with h0| ⟨blk,hblk,rfl⟩
   . omega
   refine .inr ⟨blk,hblk,?_⟩;rw [if_neg (by omega)];simp [q0I]
 . rename_i h ty off n;obtain ⟨el,hu,hsz⟩:=q2d hk0;simp only [sliceTo,Option.some.injEq] at hs;subst hs;simp only [lenOfS] at*;rw [SV.den] at hx;obtain ⟨hn,A,c,e0,hc,hd⟩:=hx;have hb:=q3q (P:=P) (C:=C) (e:=e) (isS:=true) (len:=n) (cap:=c) hlo hhi h1 h2 C.w g0 g1 (by omega);refine ⟨.slice (if c=(loOf a).toNat then A else A.map (·.add ((loOf a).toNat*ty.size))) ((hiOf n b).toNat- (loOf a).toNat) (c- (loOf a).toNat),hexec _ ?_,?_⟩
   . simp [Instr.sliceAt,run_underlying' hu,Instr.slice,e0,hb,q0m hsz]
   rw [SV.den];refine ⟨hn,_,_,rfl,by omega,?_⟩;by_cases hz:(hiOf n b).toNat- (loOf a).toNat=0
   . exact .inl hz
   rcases hd with h0| ⟨blk,hblk,rfl⟩
   . omega
   refine .inr ⟨blk,hblk,?_⟩;rw [if_neg (by omega)];simp [q0I,Nat.add_mul]
 . split at hk0
   . rename_i el hu;simp only [sliceTo,Option.some.injEq] at hs;subst hs;simp only [lenOfS] at*;rw [SV.den] at hx;have hb:=q3q (P:=P) (C:=C) (e:=e) (isS:=true) (len:=0) (cap:=0) hlo hhi h1 h2 C.w g0 g1 g2;have e1:(loOf a).toNat=0:=by omega
     have e2:(hiOf 0 b).toNat=0:=by omega
     rw [e1,e2] at hb;obtain ⟨i,hi'⟩:=Co.1 hk0;refine ⟨_,hexec (.slice none 0 0) ?_,by rw [SV.den]⟩;simp [Instr.sliceAt,run_underlying' hu,Instr.slice,hx,hb,sizeOf,typeInfo,hi']
   cases hk0
 . rename_i h ty k0 off n;obtain ⟨el,hu,hsz⟩:=q2d hk0;simp only [sliceTo,Option.some.injEq] at hs;subst hs;simp only [lenOfS] at*;rw [SV.den] at hx;obtain ⟨hn,A,c,e0,hc,hd⟩:=hx;have hb:=q3q (P:=P) (C:=C) (e:=e) (isS:=true) (len:=n) (cap:=c) hlo hhi h1 h2 C.w g0 g1 (by omega);refine ⟨.slice (if c=(loOf a).toNat then A else A.map (·.add ((loOf a).toNat*ty.size))) ((hiOf n b).toNat- (loOf a).toNat) (c- (loOf a).toNat),hexec _ ?_,?_⟩
   . simp [Instr.sliceAt,run_underlying' hu,Instr.slice,e0,hb,q0m hsz]
   rw [SV.den];refine ⟨hn,_,_,rfl,by omega,?_⟩;by_cases hz:(hiOf n b).toNat- (loOf a).toNat=0
   . exact .inl hz
   rcases hd with h0| ⟨blk,hblk,rfl⟩
   . omega
   refine .inr ⟨blk,hblk,?_⟩;rw [if_neg (by omega)];simp only [q0I,Bz,Nat.add_mul];congr 2;omega
 cases hk0

end
section
open Go

variable [Ghost] {P:Program} {AQ:Ex->List SV->List SObj->Prop} {k0:Nat} {k:List It} {tm:List SV} {H:List SObj}

mutual
def SV.frz(h:Nat)(t:Ty)(xs:List t.den):SV->SV
 |.bld h' t' n=>if h'=h∧t'=t then .isl t (xs.take n) else .bld h' t' n
 |.osl h' t' off n=>if h'=h∧t'=t then .isl t ((xs.drop off).take n) else .osl h' t' off n
 |.agg l=>.agg (SV.frzL h t xs l)
 |.tup l=>.tup (SV.frzL h t xs l)
 |.iface T x=>.iface T (SV.frz h t xs x)
 |s=>s
def SV.frzL(h:Nat)(t:Ty)(xs:List t.den):List SV->List SV
 | []=>[]
 |s :: l=>SV.frz h t xs s :: SV.frzL h t xs l
end
mutual
def SV.frzOb(h:Nat)(t:Ty)(xs:List t.den):SV->Prop
 |.bld h' t' n=>if h'=h∧t'=t then n<=xs.length else True
 |.osl h' t' off n=>if h'=h∧t'=t then off+n<=xs.length else True
 |.agg l=>SV.frzObL h t xs l
 |.tup l=>SV.frzObL h t xs l
 |.iface _ x=>SV.frzOb h t xs x
 |_=>True
def SV.frzObL(h:Nat)(t:Ty)(xs:List t.den):List SV->Prop
 | []=>True
 |s :: l=>SV.frzOb h t xs s∧SV.frzObL h t xs l
end

def Cx.frz(C:Cx)(h:Nat):Cx:={C with I:=fun b=>C.I b∨C.ρ h=some b}
theorem q0S(C:Cx)(h:Nat):Evo C (C.frz h):=⟨Af _,fun _ _=>rfl,fun _ hb=>⟨.inl hb,rfl⟩,fun _ _ h=>h⟩

variable {C:Cx}{h:Nat}{t:Ty}{xs:List t.den}
def q5L{off n:Nat}{v:Value}(hw:Wd C H)(hH:H[h]?=some (.row t xs))(hlen:xs.length<=1125899906842624)(ho:off+n<=xs.length)(hd:(SV.osl h t off n).den C v):(SV.isl t ((xs.drop off).take n)).den (C.frz h) v:=by
 obtain ⟨A,c,rfl,hc,hd⟩:=q9Y hw hH hd ho;rw [SV.den];refine ⟨A,n,c,rfl,by simp;omega,hc,by omega,?_⟩;rcases hd with h0| ⟨b,rfl,hb,_,hr⟩
 . exact .inl (by simp [h0])
 refine .inr ⟨b,off*t.size,rfl,.inr hb,fun i x hx=> ?_⟩;obtain ⟨us,g1,g2⟩:=hr i x hx;exact ⟨us,Ty.rel_keep (q0S C h).I _ _ _ g1,g2⟩

mutual
theorem q4v{C:Cx}{h:Nat}{t:Ty}{xs:List t.den}(hw:Wd C H)(hH:H[h]?=some (.row t xs))(hlen:xs.length<=1125899906842624):∀ {s:SV} {v:Value},s.frzOb h t xs->s.den C v->(s.frz h t xs).den (C.frz h) v
 |.any,_,_,d=>by rw [SV.frz];exact q0Y (q0S C h) d;all_goals (intros;contradiction)
 |.raw _,_,_,d=>by rw [SV.frz];exact q0Y (q0S C h) d;all_goals (intros;contradiction)
 |.isl _ _,_,_,d=>by rw [SV.frz];exact q0Y (q0S C h) d;all_goals (intros;contradiction)
 |.fsl _ _,_,_,d=>by rw [SV.frz];exact q0Y (q0S C h) d;all_goals (intros;contradiction)
 |.iptr _ _ _,_,_,d=>by rw [SV.frz];exact q0Y (q0S C h) d;all_goals (intros;contradiction)
 |.ptr _ _,_,_,d=>by rw [SV.frz];exact q0Y (q0S C h) d;all_goals (intros;contradiction)
 |.rptr _ _ _ _,_,_,d=>by rw [SV.frz];exact q0Y (q0S C h) d;all_goals (intros;contradiction)
 |.dat _ _,_,_,d=>by rw [SV.frz];exact q0Y (q0S C h) d;all_goals (intros;contradiction)
 |.csl ..,_,_,d=>by rw [SV.frz];exact q0Y (q0S C h) d;all_goals (intros;contradiction)
 |.mp _,_,_,d=>by rw [SV.frz];exact q0Y (q0S C h) d;all_goals (intros;contradiction)
 |.imap ..,_,_,d=>by rw [SV.frz];exact q0Y (q0S C h) d;all_goals (intros;contradiction)
 |.fn _ _ _,_,_,d=>by rw [SV.frz];exact q0Y (q0S C h) d;all_goals (intros;contradiction)
 |.bld h' t' n,v,ob,d=>by
  rw [SV.frz];rw [SV.frzOb] at ob;split
  . rename_i e;rw [if_pos e] at ob;obtain ⟨rfl,rfl⟩:=e;have:=q5L hw hH hlen (off:=0) (n:=n) (by omega) (q6c d);simpa using this
  exact q0Y (q0S C h) d
 |.osl h' t' off n,v,ob,d=>by
  rw [SV.frz];rw [SV.frzOb] at ob;split
  . rename_i e;rw [if_pos e] at ob;obtain ⟨rfl,rfl⟩:=e;exact q5L hw hH hlen ob d
  exact q0Y (q0S C h) d
 |.agg l,v,ob,d=>by rw [SV.frz,SV.den];rw [SV.frzOb] at ob;rw [SV.den] at d;obtain ⟨vs,hv,hl⟩:=d;exact ⟨vs,hv,q2o hw hH hlen ob hl⟩
 |.tup l,v,ob,d=>by rw [SV.frz,SV.den];rw [SV.frzOb] at ob;rw [SV.den] at d;obtain ⟨vs,hv,hl⟩:=d;exact ⟨vs,hv,q2o hw hH hlen ob hl⟩
 |.iface T x,v,ob,d=>by rw [SV.frz,SV.den];rw [SV.frzOb] at ob;rw [SV.den] at d;obtain ⟨u,hv,hl⟩:=d;exact ⟨u,hv,q4v hw hH hlen ob hl⟩
theorem q2o{C:Cx}{h:Nat}{t:Ty}{xs:List t.den}(hw:Wd C H)(hH:H[h]?=some (.row t xs))(hlen:xs.length<=1125899906842624):∀ {l:List SV} {vs:List Value},SV.frzObL h t xs l->SV.denL C l vs->SV.denL (C.frz h) (SV.frzL h t xs l) vs
 | [],_,_,d=>by rw [SV.frzL,SV.denL];rw [SV.denL] at d;exact d
 |s :: l,_,ob,d=>by rw [SV.frzL,SV.denL];rw [SV.frzObL] at ob;rw [SV.denL] at d;obtain ⟨v,us,rfl,d1,d2⟩:=d;exact ⟨v,us,rfl,q4v hw hH hlen ob.1 d1,q2o hw hH hlen ob.2 d2⟩
end

def SObj.frz(h:Nat)(t:Ty)(xs:List t.den):SObj->SObj
 |.cells T cs=>.cells T (SV.frzL h t xs cs)
 |.map kk ks vs=>.map kk ks (SV.frzL h t xs vs)
 |o=>o
def SObj.frzOb(h:Nat)(t:Ty)(xs:List t.den):SObj->Prop
 |.cells _ cs=>SV.frzObL h t xs cs
 |.map _ _ vs=>SV.frzObL h t xs vs
 |_=>True
def frzObH(h:Nat)(t:Ty)(xs:List t.den):List SObj->Prop
 | []=>True
 |x :: l=>x.frzOb h t xs∧frzObH h t xs l
def q5w{h:Nat}{t:Ty}{xs:List t.den}:∀ {H:List SObj} {i:Nat} {x:SObj},frzObH h t xs H->H[i]?=some x->x.frzOb h t xs
 | [],_,_,_,hi=>by simp at hi
 |y :: l,0,x,ho,hi=>by simp at hi;subst hi;exact ho.1
 |y :: l,i+1,x,ho,hi=>q5w ho.2 (by simpa using hi)
theorem j1g(x:SObj):(x.frz h t xs).live=x.live:=by cases x<;>rfl

def frzH(h:Nat)(t:Ty)(xs:List t.den)(H:List SObj):List SObj:=(H.map (SObj.frz h t xs)).set h .dead

def q4G{i:Nat}{y:SObj}(hy:(frzH h t xs H)[i]?=some y)(hl:y.live=true):i≠h∧∃x,H[i]?=some x∧y=x.frz h t xs∧x.live=true:=by
 unfold frzH at hy;have hne:i≠h:=fun e=>by
  subst e;rcases AI i (H.map (SObj.frz i t xs)).length with h1|h1
  . rw [Ar h1] at hy;cases hy;simp [SObj.live] at hl
  rw [AW (by simpa using h1)] at hy;cases hy
 rw [Aq (Ne.symm hne),AF] at hy;cases hx:H[i]? with
 |none=>simp [hx] at hy
 |some x=>simp [hx] at hy;exact ⟨hne,x,rfl,hy.symm,by rw [<-hy,j1g] at hl;exact hl⟩

theorem q9T{n:Nat}(hH:H[h]?=some (.row t xs))(hm:H[0]?=some (.mark n)):(frzH h t xs H)[0]?=some (.mark n):=by
 unfold frzH;have hne:h≠0:=fun e=>by subst e;rw [hm] at hH;cases hH
 rw [Aq hne,AF,hm];rfl
theorem z6L(hw:Wd C H)(hH:H[h]?=some (.row t xs)){b:Nat}:OwnB (C.frz h) (frzH h t xs H) b->OwnB C H b∧C.ρ h≠some b:=by rintro ⟨i,y,hy,hl,hb⟩;obtain ⟨hne,x,hxi,rfl,hlx⟩:=q4G hy hl;exact ⟨⟨i,x,hxi,hlx,hb⟩,fun e=>hne (hw.inj i h x _ b hxi hH hlx rfl hb e)⟩
def z8r{E:En}(hw:Wd C H)(hx:Ext E C H)(hH:H[h]?=some (.row t xs))(hlen:xs.length<=1125899906842624)(ho:frzObH h t xs H):Wd (C.frz h) (frzH h t xs H)∧Ext E (C.frz h) (frzH h t xs H):=by
 have hown:∀b,OwnB (C.frz h) (frzH h t xs H) b->OwnB C H b∧C.ρ h≠some b:=by rintro b ⟨i,y,hy,hl,hb⟩;obtain ⟨hne,x,hxi,rfl,hlx⟩:=q4G hy hl;exact ⟨⟨i,x,hxi,hlx,hb⟩,fun e=>hne (hw.inj i h x _ b hxi hH hlx rfl hb e)⟩
 have hownh:∀b,C.ρ h=some b->OwnB C H b:=fun b hb=>⟨h,_,hH,rfl,hb⟩;refine ⟨⟨by simp [frzH,Cx.frz,hw.n],?_,?_,?_,?_⟩,⟨hx.evo.trans (q0S C h),hx.size,hx.os,hx.tape,hx.output,hx.frame,?_,?_,fun n h0 hn=>q9T hH (hx.keep0 n h0 hn)⟩⟩
 . intro i y hy;by_cases hl:y.live=true
   . obtain ⟨hne,x,hxi,rfl,hlx⟩:=q4G hy hl;have hobj:=hw.obj i x hxi;cases x with
     |dead=>trivial
     |cells T cs=>obtain ⟨b,vs,h1,h2,h3⟩:=hobj;exact ⟨b,vs,h1,h2,q2o hw hH hlen (q5w ho hxi) h3⟩
     |mark n=>trivial
     |map kk ks vs=>obtain ⟨b,us,h1,h2,h3⟩:=hobj;exact ⟨b,us,h1,h2,q2o hw hH hlen (q5w ho hxi) h3⟩
     |row t' ys=>exact q0E (q0S C h).I i rfl (fun _ _=>rfl) (q0h (q0S C h)) hobj
   cases y<;>first|trivial|simp [SObj.live] at hl
 . intro b hb;obtain ⟨h1,h2⟩:=hown b hb;have:=hw.own b h1;exact ⟨fun hi=>hi.elim this.1 h2,this.2⟩
 . intro i j y y' b hy hy' hl hl' hb hb';obtain ⟨_,x,hxi,rfl,hlx⟩:=q4G hy hl;obtain ⟨_,x',hxj,rfl,hlx'⟩:=q4G hy' hl';exact hw.inj i j x x' b hxi hxj hlx hlx' hb hb'
 . rintro b (hb|hb)
   . exact hw.imm b hb
   exact (hw.own b (hownh b hb)).2
 . rintro b (hb|hb)
   . exact hx.immNew b hb
   exact .inr ⟨hx.ownNew b (hownh b hb),(q4y hw (hownh b hb):Unf C.w b)⟩
 intro b hb;exact hx.ownNew b (hown b hb).1

def z0B(h:Nat)(hH:H[h]?=some (.row t xs))(hlen:xs.length<=1125899906842624)(ho:frzObH h t xs H)(hot:SV.frzObL h t xs tm)(hs:Sound P AQ ⟨k0,k,SV.frzL h t xs tm,frzH h t xs H⟩):Sound P AQ ⟨k0,k,tm,H⟩:=by intro E r n C a h0 hd;obtain ⟨g1,g2⟩:=z8r hd.wd hd.ext hH hlen ho;have hdef:DefOk E (C.frz h) (frzH h t xs H) a.defers:=⟨hd.defs.1,Ghost.same hd.wd rfl (fun _ h=>.inl h) (fun b hb=>orMap hb id fun hb=>⟨h,_,hH,rfl,hb⟩) (fun b hb=>(z6L hd.wd hH hb).1) (fun _ _ hn=>q9T hH hn) hd.ext.evo.n hd.defs.2⟩;exact hs E r n (C.frz h) a h0 ⟨g1,g2,hdef,q2o hd.wd hH hlen hot hd.tmps⟩

end
section
open Go

variable [Ghost] {P:Program} {o:Oper} {ev:Operand->SV} {H:List SObj} {K:Out->List SObj->Prop}

variable {x:Operand}
def q7D{src dst:TypeId}{e':TypeId}{h n:Nat}{xs:List UInt8}(hop:o.op= .convert src dst x)(hs:P.underlying src=some (.slice e'))(ht:P.underlying dst=some .string)(he:P.underlying e'=some (.int .u8))(hx:ev x= .bld h .u8 n)
 (hH:H[h]?=some (.row .u8 xs))(hn:n<=xs.length)(hlen:xs.length<=1125899906842624)(hk:K (.ret (.raw (.string (strOf (xs.take n))))) H):OpV P o ev H K:=by
 refine q0l (by rw [hop];intro c hc;cases hc) (fun C e hw hv=> ?_) hk;have h0:=hv x (by rw [hop];simp [Op.operands]);rw [hx] at h0;have h1:=q5L hw hH hlen (off:=0) (n:=n) (by omega) (q6c h0);rw [Av] at h1;have hb:=q1W (P:=P) h1;rw [SV.den] at h1;obtain ⟨A,n',c,e0,_⟩:=h1;simp only [List.cons.injEq,and_true] at e0;rw [e0] at hb;have hb':(Conv.bytesToString (.slice A n' c)).run P C.w= .ok (.string (strOf (xs.take n))) C.w:=hb;exact ⟨.string (strOf (xs.take n)),by simp [execOp,hop,e0,convert,run_underlying' hs,run_underlying' ht,run_underlying' he,hb',Result.andThen],by rw [SV.den]⟩

mutual
def SV.toV:SV->Option Value
 |.raw v=>some v
 |.fn f a b=>match SV.toVL a,SV.toVL b with
  |some x,some y=>some (.func (.func f) x.toArray y.toArray)
  |_,_=>none
 |.agg l=>match SV.toVL l with
  |some x=>some (.agg x.toArray)
  |none=>none
 |_=>none
def SV.toVL:List SV->Option (List Value)
 | []=>some []
 |s :: l=>match SV.toV s,SV.toVL l with
  |some v,some vs=>some (v :: vs)
  |_,_=>none
end
mutual
theorem z5J{C:Cx}:∀ {s:SV} {v u:Value},s.toV=some u->s.den C v->v=u
 |.raw _,v,u,h,d=>by rw [SV.toV] at h;cases h;rw [SV.den] at d;exact d
 |.fn f a b,v,u,h,d=>by
  rw [SV.toV] at h;split at h
  . rename_i x y h1 h2;cases h;rw [SV.den] at d;obtain ⟨v1,v2,rfl,d1,d2⟩:=d;rw [q6B h1 d1,q6B h2 d2]
  cases h
 |.agg l,v,u,h,d=>by
  rw [SV.toV] at h;split at h
  . rename_i x h1;cases h;rw [SV.den] at d;obtain ⟨vs,rfl,d1⟩:=d;rw [q6B h1 d1]
  cases h
 |.any,_,_,h,_=>by simp [SV.toV] at h
 |.isl ..,_,_,h,_=>by simp [SV.toV] at h
 |.fsl ..,_,_,h,_=>by simp [SV.toV] at h
 |.iptr ..,_,_,h,_=>by simp [SV.toV] at h
 |.ptr ..,_,_,h,_=>by simp [SV.toV] at h
 |.rptr ..,_,_,h,_=>by simp [SV.toV] at h
 |.bld ..,_,_,h,_=>by simp [SV.toV] at h
 |.osl ..,_,_,h,_=>by simp [SV.toV] at h
 |.csl ..,_,_,h,_=>by simp [SV.toV] at h
 |.dat ..,_,_,h,_=>by simp [SV.toV] at h
 |.tup _,_,_,h,_=>by simp [SV.toV] at h
 |.iface ..,_,_,h,_=>by simp [SV.toV] at h
 |.mp _,_,_,h,_=>by simp [SV.toV] at h
 |.imap ..,_,_,h,_=>by simp [SV.toV] at h
theorem q6B{C:Cx}:∀ {l:List SV} {vs us:List Value},SV.toVL l=some us->SV.denL C l vs->vs=us
 | [],vs,us,h,d=>by rw [SV.toVL] at h;cases h;rw [SV.denL] at d;exact d
 |s :: l,vs,us,h,d=>by
  rw [SV.toVL] at h;split at h
  . rename_i v ws h1 h2;cases h;rw [SV.denL] at d;obtain ⟨v',us',rfl,d1,d2⟩:=d;rw [z5J h1 d1,q6B h2 d2]
  cases h
end
def SV.ofV:Value->SV
 |.agg cs=>.agg (rawL cs.toList)
 |v=>.raw v
variable {C:Cx}
def z7B(v:Value):(SV.ofV v).den C v:=by
 unfold SV.ofV;split
 . rw [SV.den];exact ⟨_,by simp,q1n _⟩
 rw [SV.den]

def keyKind(P:Program)(t:TypeId):Option (Option IntKind):=match P.underlying t with
 |some (.int k)=>some (some k)
 |some .string=>some none
 |_=>none

variable {t:TypeId}{kk:Option IntKind}
theorem q3p(h:keyKind P t=some kk):(∃k,kk=some k∧P.underlying t=some (.int k))∨(kk=none∧P.underlying t=some .string):=by
 unfold keyKind at h;split at h<;>cases h
 . exact .inl ⟨_,rfl,by assumption⟩
 exact .inr ⟨rfl,by assumption⟩

variable {k:Value}
def z2j{d:TypeDesc}(h:keyKind P t=some kk)(hd:P.underlying t=some d){k':Value}(h1:keyIs kk k=true)(h2:keyIs kk k'=true):Instr.sameNow d k k'=some (keyEq k k'):=by
 rcases q3p h with ⟨q,rfl,hu⟩ | ⟨rfl,hu⟩
 . rw [hu] at hd;cases hd;cases k<;>simp [keyIs] at h1
   cases k'<;>simp [keyIs] at h2
   subst h1 h2;simp [Instr.sameNow,keyEq];rfl
 rw [hu] at hd;cases hd;cases k<;>simp [keyIs] at h1
 cases k'<;>simp [keyIs] at h2
 simp only [Instr.sameNow,keyEq,Option.some.injEq];rw [B5,decide_eq_true_eq];exact MapKept.bytes_beq _ _

theorem q7V{t:TypeId}{kk:Option IntKind}{d:TypeDesc}(h:keyKind P t=some kk)(hd:P.underlying t=some d){k:Value}(h1:keyIs kk k=true):∀ (es:List MapEntry) (j:Nat),(∀e∈es,keyIs kk e.key=true)->
 Instr.findNow d k es j=some (match findI k (es.map (·.key)) with|some i=>some (i+j,(es.map (·.val)).getD i undef) |none=>none)
 | [],j,_=>by simp [Instr.findNow,findI]
 |e :: es,j,hk=>by
  have h2:=z2j h hd h1 (hk e (by simp));have ih:=q7V h hd h1 es (j+1) (fun e' he'=>hk e' (by simp [he']));simp only [Instr.findNow,h2,AC,findI];cases hq:keyEq k e.key
  . simp only [AY,if_false,ih];cases hf:findI k (es.map (·.key)) with
    |none=>rfl
    |some i=>simp;omega
  simp

def q7Z(h:keyKind P t=some kk)(h1:keyIs kk k=true)(es:List MapEntry)(hk:∀e∈es,keyIs kk e.key=true)(w:World):
 (Instr.findKey t k es).run P w= .ok (match findI k (es.map (·.key)) with|some i=>some (i,(es.map (·.val)).getD i undef) |none=>none) w:=by
 have:∃d,P.underlying t=some d:=by rcases q3p h with ⟨q,_,hu⟩ | ⟨_,hu⟩ <;>exact ⟨_,hu⟩
 obtain ⟨d,hd⟩:=this;have:=q7V h hd h1 es 0 hk;simp only [Instr.findKey,Sem.run_bind,run_underlying' hd,Result.andThen,this];cases findI k (es.map (·.key)) <;>simp

def z4e(h:keyKind P t=some kk)(hk:keyIs kk k=true):∃d,P.underlying t=some d∧MapKept.IsKey d k:=by
 rcases q3p h with ⟨q,rfl,hu⟩ | ⟨rfl,hu⟩
 . exact ⟨_,hu,by cases k<;>simp [keyIs] at hk;simp [MapKept.IsKey,hk]⟩
 exact ⟨_,hu,by cases k<;>simp [keyIs] at hk;simp [MapKept.IsKey]⟩
def q2G(h:keyKind P t=some kk){b:Bool}(hk:keyIs kk k=true)(w:World):(Instr.checkKey b 10000 t k).run P w= .ok () w:=by obtain ⟨d,hd,hi⟩:=z4e h hk;exact MapKept.run_checkKey hd hi b 9999

theorem q9d:∀ {k:Value} {ks:List Value} {i:Nat},findI k ks=some i->i<ks.length∧∃k',ks[i]?=some k'∧keyEq k k'=true
 |k,[],i,h=>by simp [findI] at h
 |k,k' :: ks,i,h=>by
  simp only [findI] at h;split at h
  . cases h;exact ⟨by simp,k',rfl,by assumption⟩
  simp only [Ap] at h;obtain ⟨j,hj,rfl⟩:=h;obtain ⟨h1,k'',h2,h3⟩:=q9d hj;exact ⟨by simpa using h1,k'',by simpa using h2,h3⟩
theorem z4X{k':Value}(h1:keyIs kk k=true)(h2:keyIs kk k'=true)(h:keyEq k k'=true):k'=k:=by cases kk<;>cases k<;>simp [keyIs] at h1<;>cases k'<;>simp [keyIs] at h2<;>simp [keyEq] at h<;>subst_vars<;>rfl

theorem z1J{T:TypeId}(kk:Option IntKind)(hop:o.op= .makeMap T none)(hk:K (.ret (.mp H.length)) (H++ [.map kk [] []])):OpV P o ev H K:=by
 refine q0O (by rw [hop];intro c hc;cases hc) fun C e hw _=> ?_;obtain ⟨g1,g2⟩:=q5H hw (.map #[] 0) (.map kk [] []) ⟨C.w.heap.size,[],by simp [Cx.grow],⟨#[],0,q1y _ _,rfl,rfl,by simp⟩,q0y.2 rfl⟩;refine ⟨_,.map (some C.w.heap.size),_,_,hk,.inl ?_,g1,g2,?_⟩
 . simp [execOp,hop,Instr.makeMap,Cx.grow,Result.andThen]
 rw [SV.den];exact ⟨by simp [Cx.grow,hw.n],C.w.heap.size,by simp [Cx.grow,hw.n],rfl⟩

def mput{α:Type}(ks:List Value)(vs:List α)(k:Value)(v:α):List Value×List α:=
 match findI k ks with
 |some i=>(ks,vs.set i v)
 |none=>(ks++ [k],vs++ [v])

variable {ks:List Value}
theorem z3G{α β:Type}{vs:List α}{us:List β}{v:α}{u:β}:(mput ks vs k v).1=(mput ks us k u).1:=by unfold mput;cases findI k ks<;>rfl
variable {vs:List SV}{v:Value}{s:SV}
theorem z6I{us:List Value}(hl:SV.denL C vs us)(hs:s.den C v):SV.denL C (mput ks vs k s).2 (mput ks us k v).2:=by
 unfold mput;cases findI k ks with
 |none=>exact q0x.2 ⟨us,[v],rfl,hl,q0d.2 ⟨v,[],rfl,hs,q0y.2 rfl⟩⟩
 |some i=>exact q2k hl hs
def SV.norm(s:SV):SV:=match s.toV with
 |some v=>.raw v
 |none=>s
theorem z9x(h:s.den C v):s.norm.den C v:=by
 unfold SV.norm;split
 . rename_i u hu;rw [SV.den];exact z5J hu h
 exact h
def q9p{T kt et:TypeId}{m k:Operand}{h:Nat}{kv:Value}(hop:o.op= .mapUpdate T m k x∨o.op= .insert T m k x)(hT:P.underlying T=some (.map kt et))(hkk:keyKind P kt=some kk)
 (hm:ev m= .mp h)(hkv:ev k= .raw kv)(hki:keyIs kk kv=true)(hH:H[h]?=some (.map kk ks vs))(hk:K (.ret .any) (H.set h (.map kk (mput ks vs kv (ev x).norm).1 (mput ks vs kv (ev x).norm).2))):OpV P o ev H K:=by
 refine q0O (by rcases hop with h|h<;> (rw [h];intro c hc;cases hc)) fun C e hw hv=> ?_;have v1:=hv m (by rcases hop with h|h<;> (rw [h];simp [Op.operands]));have v2:=hv k (by rcases hop with h|h<;> (rw [h];simp [Op.operands]));have v3:=z9x (hv x (by rcases hop with h|h<;> (rw [h];simp [Op.operands])));obtain ⟨xv,hxv⟩:∃xv,xv=e x:=⟨_,rfl⟩;rw [<-hxv] at v3;rw [hm,SV.den] at v1;rw [hkv,SV.den] at v2;obtain ⟨_,b,hb,v1⟩:=v1;obtain ⟨b',us,hb',⟨es,clock,hes,hks,hvs,hall⟩,hus⟩:=hw.obj h _ hH;rw [hb] at hb';cases hb';have hke:∀e∈es.toList,keyIs kk e.key=true:=fun e he=>hall _ (by rw [<-hks];exact List.mem_map_of_mem he);have hfind:=fun w=>q7Z (P:=P) hkk hki es.toList hke w;have main:∀es' clock',(es'.toList.map (·.key),es'.toList.map (·.val))=mput ks us kv xv->(Instr.mapUpdate T (e m) (e k) (e x)).run P C.w= .ok () {C.w with heap:=C.w.heap.setIfInBounds b (.map es' clock')}->
  ∃s v H' C',K (.ret s) H'∧((execOp e o).run P C.w= .ok (.value v) C'.w∨((execOp e o).run P C.w= .ok .skip C'.w∧v=undef))∧Wd C' H'∧Ext ⟨C,H⟩ C' H'∧s.den C' v:=fun es' clock' hput hrun=>by
  have hlt:b<C.w.heap.size:=(AE.1 hes).1;have hob:OwnB C H b:=⟨h,_,hH,rfl,hb⟩
  have he:Evo C {C with w:={C.w with heap:=C.w.heap.setIfInBounds b (.map es' clock')}}:=⟨Af _,fun _ _=>rfl,fun b' hi=>⟨hi,by
   have hne:b'≠b:=fun e=>(hw.own b hob).1 (e▸hi)
   simp [Ne.symm hne]⟩,fun b' m hm=>by
   by_cases hbb:b'=b
   . subst hbb;unfold World.bsize at hm;rw [hes] at hm;cases hm
   unfold World.bsize at hm⊢;rw [show ({C.w with heap:=C.w.heap.setIfInBounds b (.map es' clock')}:World).heap[b']?=C.w.heap[b']? by simp [Ne.symm hbb]];exact hm⟩
  have hkeys:∀k'∈(mput ks us kv xv).1,keyIs kk k'=true:=by
   unfold mput;split
   . exact hall
   intro k' hk';rcases BV.1 hk' with h1|h1
   . exact hall k' h1
   rw [CN.1 h1];exact hki
  obtain ⟨g1,g2,g3⟩:=z1h (so':=.map kk (mput ks vs kv (ev x).norm).1 (mput ks vs kv (ev x).norm).2) hw hH rfl rfl hb {C.w with heap:=C.w.heap.setIfInBounds b (.map es' clock')} (fun b' hb'=>by simp [Ne.symm hb']) (by simp)
   (fun m hm=>by unfold World.bsize at hm;rw [hes] at hm;cases hm) rfl rfl rfl
   ⟨b,(mput ks us kv xv).2,hb,⟨es',clock',by simp [hlt],by rw [z3G (us:=us) (u:=xv),<-hput],by rw [<-hput],by rw [z3G (us:=us) (u:=xv)];exact hkeys⟩,q0h he (z6I hus v3)⟩
  refine ⟨_,undef,_,_,hk,.inr ⟨?_,rfl⟩,g1,g2,by rw [SV.den];trivial⟩;rcases hop with h|h<;>simp [execOp,h,hrun,Result.andThen]
 cases hf:findI kv ks with
 |none=>refine main (es.push {key:=kv,val:=xv,born:=clock}) (clock+1) (by simp [mput,hf,hks,hvs]) ?_;simp [Instr.mapUpdate,run_underlying' hT,v1,v2,<-hxv,hes,q2G hkk hki,MapKept.run_getObj_map hes,MapKept.run_setObj_map _ hes,hfind,hks,hf,Result.andThen]
 |some i=>
  obtain ⟨hi,k',hk',hkeq⟩:=q9d hf;have hkk':k'=kv:=z4X hki (hall k' (BN hk')) hkeq;subst hkk';have hes':(es[i]?).map (·.key)=some k':=by rw [<-hks] at hk';simpa using hk'
  have hbits:(Instr.keyThatStays k' k').run P C.w= .ok k' C.w:=by obtain ⟨d,hd,hi⟩:=z4e hkk hki;exact MapKept.run_keyThatStays hi
  have hlen:es.toList.length=ks.length:=by rw [<-hks];simp
  refine main (es.modify i fun e=>{e with key:=k',val:=xv}) clock ?_ ?_
  . simp only [mput,hf,Prod.mk.injEq];constructor
    . rw [<-hks];apply Bf;intro j;by_cases hj:j=i
      . subst hj;simp only [Ck,AF,Ce];have:(es.toList[j]?).map (·.key)=some k':=by simpa using hes'
        cases he:es.toList[j]? with
        |none=>simp
        |some e=>simp [he] at this;simp [this]
      simp [Ck,Ce,Ne.symm hj]
    rw [<-hvs];apply Bf;intro j;have hil:i<es.toList.length:=by omega
    by_cases hj:j=i
    . subst hj;simp only [Ck,AF,Ce,if_true];rw [Ar (by simpa using hil),Ac hil];simp
    rw [Aq (Ne.symm hj)];simp [Ck,Ce,Ne.symm hj]
  simp [Instr.mapUpdate,run_underlying' hT,v1,v2,<-hxv,hes,q2G hkk hki,MapKept.run_getObj_map hes,MapKept.run_setObj_map _ hes,hfind,hks,hf,Result.andThen,hes',hbits]

def mget(ks:List Value)(vs:List SV)(z k:Value):SV×Bool:=
 match findI k ks with
 |some i=>(vs.getD i (.raw undef),true)
 |none=>(.raw z,false)
def SV.ofS:SV->SV
 |.raw v=>.ofV v
 |s=>s
def z7J(h:s.den C v):s.ofS.den C v:=by
 unfold SV.ofS;split
 . rw [SV.den] at h;subst h;exact z7B _
 exact h
def mres(ok:Bool)(p:SV×Bool):SV:=if ok then .tup [p.1.ofS,.raw (.bool p.2)] else p.1.ofS

def zeroOf(P:Program)(t:TypeId):Option Value:=(P.info? t).bind (·.zero)
def q8F{z:Value}(h:zeroOf P t=some z)(w:World):(zeroValue t).run P w= .ok z w:=by
 unfold zeroOf at h;cases hi:P.info? t with
 |none=>simp [hi] at h
 |some i=>simp [hi] at h;simp [zeroValue,typeInfo,hi,h]

def unrawL:List SV->Option (List Value)
 | []=>some []
 |.raw v :: l=>(unrawL l).map (v :: ·)
 |_ :: _=>none
def q4F:∀ {l:List SV} {us:List Value},unrawL l=some us->l=rawL us
 | [],_,h=>by cases h;rfl
 |.raw v :: l,_,h=>by simp only [unrawL,Ap] at h;obtain ⟨us,h1,rfl⟩:=h;rw [q4F h1];rfl
 |.any :: _,_,h=>by cases h
 |.isl _ _ :: _,_,h=>by cases h
 |.fsl _ _ :: _,_,h=>by cases h
 |.iptr .. :: _,_,h=>by cases h
 |.ptr .. :: _,_,h=>by cases h
 |.rptr .. :: _,_,h=>by cases h
 |.bld .. :: _,_,h=>by cases h
 |.osl .. :: _,_,h=>by cases h
 |.csl .. :: _,_,h=>by cases h
 |.dat .. :: _,_,h=>by cases h
 |.agg _ :: _,_,h=>by cases h
 |.tup _ :: _,_,h=>by cases h
 |.fn .. :: _,_,h=>by cases h
 |.iface .. :: _,_,h=>by cases h
 |.mp _ :: _,_,h=>by cases h
 |.imap .. :: _,_,h=>by cases h
def mapOf(H:List SObj):SV->Option (Option IntKind×List Value×List SV)
 |.mp h=>match H[h]? with
  |some (.map kk ks vs)=>some (kk,ks,vs)
  |_=>none
 |.imap kk ks vs=>some (kk,ks,rawL vs)
 |_=>none
theorem z1v(hw:Wd C H)(h:mapOf H s=some (kk,ks,vs))(d:s.den C v):∃b us,v= .map (some b)∧mapAt C.w b kk ks us∧SV.denL C vs us:=by
 unfold mapOf at h;split at h
 . split at h
   . rename_i hH;cases h;rw [SV.den] at d;obtain ⟨_,b,hb,hv⟩:=d;obtain ⟨b',us,hb',hm,hu⟩:=hw.obj _ _ hH;rw [hb] at hb';cases hb';exact ⟨b,us,hv,hm,hu⟩
   cases h
 . cases h;rw [SV.den] at d;obtain ⟨b,hv,_,hm⟩:=d;exact ⟨b,_,hv,hm,q1n _⟩
 cases h

theorem z4J{T kt et:TypeId}{m k:Operand}{ok:Bool}{kv z:Value}(hop:o.op= .lookup T m k ok)(hT:P.underlying T=some (.map kt et))(hkk:keyKind P kt=some kk)(hz:zeroOf P et=some z)
 (hm:mapOf H (ev m)=some (kk,ks,vs))(hkv:ev k= .raw kv)(hki:keyIs kk kv=true)(hk:K (.ret (mres ok (mget ks vs z kv))) H):OpV P o ev H K:=by
 refine q0l (by rw [hop];intro c hc;cases hc) (s:=mres ok (mget ks vs z kv)) (fun C e hw hv=> ?_) hk;have v1:=hv m (by rw [hop];simp [Op.operands]);have v2:=hv k (by rw [hop];simp [Op.operands]);rw [hkv,SV.den] at v2;obtain ⟨b,us,v1,⟨es,clock,hes,hks,hvs,hall⟩,hus⟩:=z1v hw hm v1;have hke:∀e∈es.toList,keyIs kk e.key=true:=fun e he=>hall _ (by rw [<-hks];exact List.mem_map_of_mem he);have hfind:=q7Z (P:=P) hkk hki es.toList hke C.w;have hlen:es.toList.length=ks.length:=by rw [<-hks];simp
 have hgd:(mget ks vs z kv).1.den C (match findI kv ks with|some i=>us.getD i undef|none=>z):=by
  unfold mget;cases hf:findI kv ks with
  |none=>exact (by rw [SV.den]:(SV.raw z).den C z)
  |some i=>
   have hi:=(q9d hf).1;have hul:i<us.length:=by rw [<-hvs,AX,hlen];exact hi
   have hvl:i<vs.length:=by rw [<-q0A hus];exact hul
   have:=q1Z hus (Ac hvl);obtain ⟨v,h1,h2⟩:=this;have e1:vs.getD i (.raw undef)=vs[i]:=by rw [Aa,Ac hvl];rfl
   have e2:us.getD i undef=v:=by rw [Aa,h1];rfl
   show (vs.getD i (.raw undef)).den C (us.getD i undef);rw [e1,e2];exact h2
 have hgb:(mget ks vs z kv).2=(findI kv ks).isSome:=by unfold mget;cases findI kv ks<;>rfl
 generalize hu:(match findI kv ks with|some i=>us.getD i undef|none=>z)=u at hgd;refine ⟨if ok then .tuple #[u,.bool (mget ks vs z kv).2] else u,?_,?_⟩
 . rw [hgb,<-hu];cases hf:findI kv ks with
   |none=>simp [execOp,hop,Instr.lookup,run_underlying' hT,v1,v2,hes,q2G hkk hki,MapKept.run_getObj_map hes,MapKept.run_setObj_map _ hes,hfind,hks,hf,Result.andThen,q8F hz]
   |some i=>simp [execOp,hop,Instr.lookup,run_underlying' hT,v1,v2,hes,q2G hkk hki,MapKept.run_getObj_map hes,MapKept.run_setObj_map _ hes,hfind,hks,hvs,hf,Result.andThen]
 unfold mres;cases ok
 . simp only [AY,if_false];exact z7J hgd
 simp only [if_true];rw [SV.den];exact ⟨[u,.bool (mget ks vs z kv).2],rfl,q0d.2 ⟨_,_,rfl,z7J hgd,q0d.2 ⟨_,_,rfl,by rw [SV.den],q0y.2 rfl⟩⟩⟩

def z1S{c:Call}{kt et:TypeId}(hop:o.op= .call c)(hc:c.callee= .builtin .len)(ha:c.args= #[x])(hty:c.argTypes= #[t])(hT:P.underlying t=some (.map kt et))
 (hm:mapOf H (ev x)=some (kk,ks,vs))(hk:K (.ret (.raw (.int .i64 ks.length))) H):OpV P o ev H K:=by
 refine q0l (by rw [hop];intro c hc;cases hc) (fun C e hw hv=> ?_) hk;have h0:=hv x (by rw [hop];simp [Op.operands,Call.operands,hc,ha]);obtain ⟨b,us,v1,⟨es,clock,hes,hks,hvs,hall⟩,_⟩:=z1v hw hm h0;refine ⟨.int .i64 ks.length,?_,by rw [SV.den]⟩;have hl:es.size=ks.length:=by rw [<-hks];simp
 have hrun:(Builtin.len_ #[t] o.type #[e x]).run P C.w= .ok (.int .i64 ks.length) C.w:=by simp [Builtin.len_,v1,run_underlying' hT,MapKept.run_getObj_map hes,goInt,Result.andThen,hl]
 simp [execOp,hop,resolve,hc,ha,hty,invoke,builtin,hrun,Result.andThen]
end
end Go.Sx