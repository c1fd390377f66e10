/- A part of the proof: a symbolic executor over abstract values, and its soundness. -/
import Derived.Test.YtikapabgggphpaaGreatDoorP17
import Derived.RangeFuncRecord
set_option linter.all false
set_option linter.unusedSectionVars false
namespace Go.Sx
open Go

variable {P:Program}

def Ty.bare:Ty→Bool
 |.slice _=>false
 |.ptr _=>false
 |.clo _ _=>false
 |.clp _ _=>false
 |.mbs _=>false
 |.prod a b=>a.bare&& b.bare
 |.arr _ t=>t.bare
 |_=>true
theorem q3V {I I':Nat→Prop} {w w':World}:∀ (t:Ty) (x:t.den) (vs:List Value),t.bare=true→t.rel I w x vs→t.rel I' w' x vs
 |.u8,_,_,_,h=>h
 |.int _,_,_,_,h=>h
 |.bool,_,_,_,h=>h
 |.str,_,_,_,h=>h
 |.slice _,_,_,hb,_=>by cases hb
 |.prod a b,x,vs,hb,h=>by
  simp only [Ty.bare,Bool.and_eq_true] at hb
  obtain ⟨v1,v2,rfl,h1,h2⟩:=h
  exact ⟨v1,v2,rfl,q3V a _ _ hb.1 h1,q3V b _ _ hb.2 h2⟩
 |.unit,_,_,_,h=>h
 |.arr n t,xs,vs,hb,h=>by
  obtain ⟨hn,vss,rfl,hl,h⟩:=h
  exact ⟨hn,vss,rfl,hl,fun i x us hx hu=>q3V t _ _ hb (h i x us hx hu)⟩
 |.ptr _,_,_,hb,_=>by cases hb
 |.clo _ _,_,_,hb,_=>by cases hb
 |.clp _ _,_,_,hb,_=>by cases hb
 |.mbs _,_,_,hb,_=>by cases hb
def SObj.bare:SObj→Bool
 |.dead=>true
 |.row t _=>t.bare
 |_=>false
theorem z3c {C C':Cx} {h:Nat}:∀ {o:SObj},o.bare=true→C'.ρ h=C.ρ h→(o.live=true→∀b,C.ρ h=some b→C'.w.heap[b]?=C.w.heap[b]?)→objDen C h o→objDen C' h o
 |.dead,_,_,_,_=>trivial
 |.row t xs,hb,hr,hw,d=>by
  rcases d with ⟨h1,h2⟩ | ⟨b,arr,T,fz,h1,h2,h3,h4,h5⟩
  · exact .inl ⟨hr.trans h1,h2⟩
  refine .inr ⟨b,arr,T,fz,hr.trans h1,(hw rfl b h1).trans h2,h3,h4,fun i x hx=> ?_⟩
  obtain ⟨us,g1,g2⟩:=h5 i x hx
  exact ⟨us,q3V t _ _ hb g1,fun k u hu=>by rw [←g2 k u hu];exact World.cell?_of_block (hw rfl b h1)⟩
 |.cells ..,hb,_,_,_=>by cases hb
 |.map ..,hb,_,_,_=>by cases hb
 |.mark _,hb,_,_,_=>by cases hb
mutual
def SV.bare:SV→Bool
 |.raw _=>true
 |.dat t _=>t.bare
 |.agg l=>SV.bareL l
 |.tup l=>SV.bareL l
 |.any=>true
 |_=>false
def SV.bareL:List SV→Bool
 | []=>true
 |s :: l=>s.bare&& SV.bareL l
end
mutual
theorem z1N {C C':Cx}:∀ {s:SV} {v:Value},s.bare=true→s.den C v→s.den C' v
 |.any,_,_,_=>by rw [SV.den];trivial
 |.raw u,v,_,h=>by rw [SV.den] at h⊢;exact h
 |.dat t x,v,hb,h=>by
  rw [SV.den] at h⊢
  obtain ⟨vs,hv,hr⟩:=h
  exact ⟨vs,hv,q3V t _ _ (by simpa [SV.bare] using hb) hr⟩
 |.agg l,v,hb,h=>by
  rw [SV.den] at h⊢
  obtain ⟨vs,hv,hr⟩:=h
  exact ⟨vs,hv,q6c (by simpa [SV.bare] using hb) hr⟩
 |.tup l,v,hb,h=>by
  rw [SV.den] at h⊢
  obtain ⟨vs,hv,hr⟩:=h
  exact ⟨vs,hv,q6c (by simpa [SV.bare] using hb) hr⟩
 |.isl ..,_,hb,_=>by simp [SV.bare] at hb
 |.fsl ..,_,hb,_=>by simp [SV.bare] at hb
 |.iptr ..,_,hb,_=>by simp [SV.bare] at hb
 |.ptr ..,_,hb,_=>by simp [SV.bare] at hb
 |.rptr ..,_,hb,_=>by simp [SV.bare] at hb
 |.bld ..,_,hb,_=>by simp [SV.bare] at hb
 |.osl ..,_,hb,_=>by simp [SV.bare] at hb
 |.csl ..,_,hb,_=>by simp [SV.bare] at hb
 |.fn ..,_,hb,_=>by simp [SV.bare] at hb
 |.iface ..,_,hb,_=>by simp [SV.bare] at hb
 |.mp ..,_,hb,_=>by simp [SV.bare] at hb
 |.imap ..,_,hb,_=>by simp [SV.bare] at hb
theorem q6c {C C':Cx}:∀ {l:List SV} {vs:List Value},SV.bareL l=true→SV.denL C l vs→SV.denL C' l vs
 | [],_,_,h=>by rw [SV.denL] at h⊢;exact h
 |s :: l,_,hb,h=>by
  rw [SV.denL] at h⊢
  simp only [SV.bareL,Bool.and_eq_true] at hb
  obtain ⟨v,us,rfl,h1,h2⟩:=h
  exact ⟨v,us,rfl,z1N hb.1 h1,q6c hb.2 h2⟩
end

def RLies (t:Ty) (xs:List t.den) (off:Nat) (t2:Ty) (y:t2.den):Prop:=
 (∃x,xs= [x]∧t.get x off t2.size=some ⟨t2,y⟩)∨(t2= .arr xs.length t∧off=0∧t.size=1∧0<xs.length∧HEq y xs)
inductive Bor (h:Nat) (t:Ty) (xs:List t.den):SV→SV→Prop where
 |keep {s:SV} (hb:s.bel h=true):Bor h t xs s s
 |bld {n:Nat} (hn:n≤xs.length):Bor h t xs (.bld h t n) (.isl t (xs.take n))
 |osl {off n:Nat} (hn:off+n≤xs.length):Bor h t xs (.osl h t off n) (.isl t ((xs.drop off).take n))
 |csl {e:Ty} {k i n:Nat} {ys:List e.den} {p:Prop} (ho:ownPart e k i n (.row t xs)=some (ys,p)) (hp:p) (hn:n≤1125899906842624):Bor h t xs (.csl h e k i n) (.isl e ys)
 |ptr {t' t2:Ty} {i k:Nat} {y:t2.den} (hr:RLies t xs (i*t'.size+k) t2 y):Bor h t xs (.rptr h t' i k) (.iptr t2 y 0)
inductive BorL (h:Nat) (t:Ty) (xs:List t.den):List SV→List SV→Prop where
 |nil:BorL h t xs [] []
 |cons {s s':SV} {l l':List SV} (h1:Bor h t xs s s') (h2:BorL h t xs l l'):BorL h t xs (s :: l) (s' :: l')

variable {H:List SObj}
theorem rlies {C:Cx} {h off:Nat} {t t2:Ty} {xs:List t.den} {y:t2.den} (hw:Wd C H) (hH:H[h]?=some (.row t xs)) (hr:RLies t xs off t2 y):∃b,C.ρ h=some b∧Lies C.I C.w b off t2 y:=by
 rcases hr with ⟨x,rfl,hg⟩ | ⟨e,rfl,hs,hl,hy⟩
 · obtain ⟨b,hb,h1⟩:=q1D (i:=0) hw hH rfl
   rw [Nat.zero_mul] at h1
   have h2:=(z0u t hg h1).1
   rw [Nat.zero_add] at h2
   exact ⟨b,hb,h2⟩
 subst e
 cases hy
 obtain ⟨b,hb,h1⟩:=q8v (i:=0) (m:=xs.length) hw hH hs (by omega) hl
 rw [List.drop_zero,List.take_length] at h1
 exact ⟨b,hb,h1⟩
theorem j2c {C:Cx} {h:Nat} {t:Ty} {xs:List t.den} (hw:Wd C H) (hH:H[h]?=some (.row t xs)) (hlen:xs.length≤1125899906842624) {s s':SV} {v:Value} (hb:Bor h t xs s s') (hd:s.den C v):s'.den {C.frz h with n:=h} v:=by
 have hk:Keeps C.I (C.frz h).I C.w C.w:=fun b hb=>⟨.inl hb,rfl⟩
 cases hb with
 |keep hb=>
  have h1:=q8f (σ:=fun h=>h) hb (by rw [z2s];exact hd)
  exact q0P (C:=C.ren (fun h=>h) h) (C':={C.frz h with n:=h}) ⟨Nat.le_refl _,fun _ _=>rfl,fun b (hb:C.I b)=>⟨Or.inl hb,rfl⟩,fun _ _ h=>h⟩ h1
 |bld hn=>
  have:=q5i hw hH hlen (off:=0) (by omega) (q5e hd)
  rw [List.drop_zero] at this
  exact q0A (C:=C.frz h) (Keeps.refl _ _) rfl this
 |osl hn=>exact q0A (C:=C.frz h) (Keeps.refl _ _) rfl (q5i hw hH hlen hn hd)
 |csl ho hp hn=>
  rename_i e k i n ys p
  obtain ⟨h1,h2⟩:=q7C hw hH ho hp
  simp only [SV.den] at hd
  obtain ⟨_,A,c,rfl,hc,hd⟩:=hd
  rw [SV.den.eq_def]
  refine ⟨A,n,c,rfl,h1.symm,hc,hn,?_⟩
  rcases hd with h0| ⟨b,hb,rfl⟩
  · exact .inl (List.length_eq_zero_iff.1 (h1.trans h0))
  refine .inr ⟨b,_,rfl,.inr hb,fun j y hy=> ?_⟩
  obtain ⟨us,g1,g2⟩:=h2 b hb j y hy
  exact ⟨us,Ty.rel_keep hk _ _ _ g1,g2⟩
 |ptr hr=>
  obtain ⟨b,hb,us,g1,g2⟩:=rlies hw hH hr
  obtain ⟨b',hb',rfl⟩:=q3h hd
  rw [hb] at hb';cases hb'
  rw [SV.den.eq_def]
  exact ⟨b,_,us,rfl,.inr hb,Ty.rel_keep hk _ _ _ g1,g2⟩
theorem z7x {C:Cx} {h:Nat} {t:Ty} {xs:List t.den} (hw:Wd C H) (hH:H[h]?=some (.row t xs)) (hlen:xs.length≤1125899906842624) {l l':List SV} (hb:BorL h t xs l l'):∀ {vs:List Value},SV.denL C l vs→SV.denL {C.frz h with n:=h} l' vs:=by
 induction hb with
 |nil=>intro vs hd;rw [SV.denL] at hd⊢;exact hd
 |cons h1 _ ih=>
  intro vs hd
  rw [SV.denL] at hd⊢
  obtain ⟨v,us,rfl,d1,d2⟩:=hd
  exact ⟨v,us,rfl,j2c hw hH hlen h1 d1,ih d2⟩
theorem z1W {l:List SObj} (h:l.all SObj.bare=true) {i:Nat} {o:SObj} (ho:l[i]?=some o):o.bare=true:=List.all_eq_true.1 h o (List.mem_of_getElem? ho)
theorem q7z {f:FuncId} {args args':List SV} {H0 H1:List SObj} {s:SV} {t:Ty} {xs:List t.den} (hp:VCall P f args' H0 fun o' H'=>o'= .ret s∧H'=H1) (hl:H1.length=H0.length) (hb0:H0.all SObj.bare=true) (hb1:H1.all SObj.bare=true) (hs:s.bare=true)
 (hlen:xs.length≤1125899906842624) (hb:BorL H0.length t xs args args'):VCall P f args (H0++ [.row t xs]) fun o' H'=>o'= .ret s∧H'=H1++ [.row t xs]:=by
 intro C vs hw ht hv
 have hH:(H0++ [SObj.row t xs])[H0.length]?=some (.row t xs):=by rw [List.getElem?_append_right (Nat.le_refl _)];simp
 have hn:C.n=H0.length+1:=by rw [hw.n];simp
 have hget:∀ {i o},H0[i]?=some o→(H0++ [SObj.row t xs])[i]?=some o:=fun hi=>by rw [List.getElem?_append_left (List.getElem?_eq_some_iff.1 hi).1];exact hi
 have hown0:∀b,OwnB {C.frz H0.length with n:=H0.length} H0 b→OwnB C (H0++ [.row t xs]) b∧C.ρ H0.length≠some b:=by
  rintro b ⟨i,o,ho,hlv,hbb⟩
  refine ⟨⟨i,o,hget ho,hlv,hbb⟩,fun e=> ?_⟩
  have:=hw.inj i H0.length o _ b (hget ho) hH hlv rfl hbb e
  have:=(List.getElem?_eq_some_iff.1 ho).1
  omega
 have hwb:Wd {C.frz H0.length with n:=H0.length} H0:=by
  refine ⟨rfl,fun i o ho=>z3c (C:=C) (z1W hb0 ho) rfl (fun _ _ _=>rfl) (hw.obj i o (hget ho)),fun b hb'=> ?_,fun i j o o' b ho ho' hlv hlv' h1 h2=>hw.inj i j o o' b (hget ho) (hget ho') hlv hlv' h1 h2,fun b hb'=> ?_⟩
  · obtain ⟨h1,h2⟩:=hown0 b hb'
    exact ⟨fun h=>h.elim (hw.own b h1).1 h2,(hw.own b h1).2⟩
  exact hb'.elim (hw.imm b) fun h=>(hw.own b ⟨_,_,hH,rfl,h⟩).2
 refine (hp {C.frz H0.length with n:=H0.length} vs hwb (ht.sub rfl (fun b hb'=>.inl hb') fun b hb'=>(hown0 b hb').1) (z7x hw hH hlen hb hv)).mono ?_
 rintro e w' ⟨o,H',C',⟨rfl,rfl⟩,rfl,hw',hx,v,rfl,hd⟩
 have hρ:∀i,i<H0.length→C'.ρ i=C.ρ i:=fun i hi=>hx.evo.ρ i hi
 let D:Cx:={ρ:=C.ρ,n:=H0.length+1,I:=fun b=>C'.I b∧C.ρ H0.length≠some b,w:=C'.w}
 have hK:Keeps C.I D.I C.w C'.w:=fun b hb'=>⟨⟨(hx.evo.I b (.inl hb')).1,fun e=>(hw.own b ⟨_,_,hH,rfl,e⟩).1 hb'⟩,(hx.evo.I b (.inl hb')).2⟩
 have hevo:Evo C D:=⟨by rw [hn];exact Nat.le_refl _,fun _ _=>rfl,hK,hx.evo.sz⟩
 have hcase:∀ {i oo},(H'++ [SObj.row t xs])[i]?=some oo→(i<H0.length∧H'[i]?=some oo)∨(i=H0.length∧oo= .row t xs):=fun {i oo} hi=>by
  rcases Nat.lt_or_ge i H'.length with h1|h1
  · rw [List.getElem?_append_left h1] at hi;exact .inl ⟨by omega,hi⟩
  rw [List.getElem?_append_right h1] at hi
  have:i-H'.length=0:=by
   have:=(List.getElem?_eq_some_iff.1 hi).1
   simpa using this
  rw [this] at hi
  exact .inr ⟨by omega,by simpa using hi.symm⟩
 have hlast:∀b,C.ρ H0.length=some b→C'.I b:=fun b hb'=>(hx.evo.I b (.inr hb')).1
 have hownD:∀b,OwnB D (H'++ [.row t xs]) b→OwnB C' H' b∨C.ρ H0.length=some b:=by
  rintro b ⟨i,oo,ho,hlv,hbb⟩
  rcases hcase ho with ⟨h1,h2⟩ | ⟨rfl,_⟩
  · exact .inl ⟨i,oo,h2,hlv,(hρ i h1).trans hbb⟩
  exact .inr hbb
 refine ⟨.ret s,_,D,⟨rfl,rfl⟩,rfl,⟨?_,fun i oo ho=> ?_,fun b hb'=> ?_,fun i j oo oo' b ho ho' hlv hlv' h1 h2=> ?_,fun b hb'=>hw'.imm b hb'.1⟩,
  ⟨hevo,hx.size,hx.os,hx.tape,hx.output,fun b h1 h2=>hx.frame b h1 fun hq=>h2 (hown0 b hq).1,fun b hb'=> ?_,fun b hb'=> ?_,fun n _ hn'=> ?_⟩,v,rfl,z1N hs hd⟩
 · show H0.length+1=_;simp [hl]
 · rcases hcase ho with ⟨h1,h2⟩ | ⟨rfl,rfl⟩
   · exact z3c (C:=C') (C':=D) (z1W hb1 h2) (hρ i h1).symm (fun _ _ _=>rfl) (hw'.obj i oo h2)
   exact q0x (C':=D) hK _ rfl (fun b hb'=>(hx.evo.I b (.inr hb')).2) (q0l hevo) (hw.obj _ _ hH)
 · rcases hownD b hb' with h1|h1
   · exact ⟨fun h=>(hw'.own b h1).1 h.1,(hw'.own b h1).2⟩
   exact ⟨fun h=>h.2 h1,hw'.imm b (hlast b h1)⟩
 · rcases hcase ho with ⟨g1,g2⟩ | ⟨rfl,rfl⟩ <;>rcases hcase ho' with ⟨g1',g2'⟩ | ⟨rfl,rfl⟩
   · exact hw'.inj i j oo oo' b g2 g2' hlv hlv' ((hρ i g1).trans h1) ((hρ j g1').trans h2)
   · exact absurd (hlast b h2) (hw'.own b ⟨i,oo,g2,hlv,(hρ i g1).trans h1⟩).1
   · exact absurd (hlast b h1) (hw'.own b ⟨j,oo',g2',hlv',(hρ j g1').trans h2⟩).1
   rfl
 · rcases hx.immNew b hb'.1 with (q|q) | ⟨q|q,u⟩
   · exact .inl q
   · exact absurd q hb'.2
   · exact .inr ⟨.inl q,u⟩
   exact .inr ⟨.inr (hown0 b q).1,u⟩
 · rcases hownD b hb' with h1|h1
   · exact orMap (hx.ownNew b h1) id fun q=>(hown0 b q).1
   exact .inr ⟨_,_,hH,rfl,h1⟩
 exfalso
 cases H0 with
 |nil=>simp at hn'
 |cons o l=>
  simp at hn'
  subst hn'
  simp [SObj.bare] at hb0
theorem z1d {f:FuncId} {args args':List SV} {H0 H1:List SObj} {s:SV} {t:Ty} {xs:List t.den} (hp:PE P f args' H0 (.ret s) H1) (hl:H1.length=H0.length) (hb0:H0.all SObj.bare=true) (hb1:H1.all SObj.bare=true) (hs:s.bare=true)
 (hlen:xs.length≤1125899906842624) (hb:BorL H0.length t xs args args'):PE P f args (H0++ [.row t xs]) (.ret s) (H1++ [.row t xs]):=⟨hp.1,q7z hp.2 hl hb0 hb1 hs hlen hb⟩
theorem q5z {f:FuncId} {args args':List SV} {s:SV} {t:Ty} {xs:List t.den} (hp:PC P f args' s) (hs:s.bare=true) (hlen:xs.length≤1125899906842624) (hb:BorL 0 t xs args args'):PE P f args [.row t xs] (.ret s) [.row t xs]:=
 ⟨hp.1,q7z (H0:=[]) (H1:=[]) (hp.2 [] _ ⟨rfl,rfl⟩) rfl rfl rfl hs hlen hb⟩
theorem z7l {α:Type} (x:α):Option.getD (none:Option α) x=x:=rfl
theorem z7m {α:Type} (x y:α):Option.getD (some y) x=y:=rfl
theorem j0G {t:Ty} {x y:t.den}:SV.leA (.dat t x) (.dat t y)=(x=y):=by simp [SV.leA]
theorem z8H {t t':Ty} {h i k h' i' k':Nat}:SV.leA (.rptr h t i k) (.rptr h' t' i' k')=(h=h'∧t=t'∧i=i'∧k=k'):=by simp [SV.leA]
attribute [go_sem] z7l z7m j0G z8H
end Go.Sx
namespace Go.Sx
open Go

variable {P:Program} {AQ:Ex→List SV→List SObj→Prop} {k0:Nat} {k:List It} {t:List SV} {H:List SObj}

@[reducible] def frzN (q:Nat→Prop) (w0:World) (N:Nat):Ghost where
 inv0:=fun E C H=>(E.C.w.heap.size≤N∧∀b,TBlk b→b<N)∧ZInv q w0 C H
 fin:=fun E _ _ ds=>ds=E.base∧True
 toFin0:=fun _ _=>⟨rfl,trivial⟩
 next0:=fun {E _ _ _ _} hx h=>⟨h.1,(frzG q w0).next0 (E:=E) hx h.2⟩
 same0:=fun {E _ _ _ _} hw e hk hi ho hm hl h=>⟨h.1,(frzG q w0).same0 (E:=E) hw e hk hi ho hm hl h.2⟩

theorem q5s {Q Q':Exit→Act→World→Prop} (hq:∀e a w,Q e a w→Q' e a w) (h:LetsOut Q):LetsOut Q':=by
 obtain ⟨a,w,h⟩:=h
 exact ⟨a,w,hq _ _ _ h⟩
theorem z3p {F:Fence} {n:Nat} {o:Oper} {a:Act} {w:World} {K K':Act→World→Prop} {Q Q':Exit→Act→World→Prop} (h:∀a w,K a w→K' a w) (hq:∀e a w,Q e a w→Q' e a w)
 (hh:o.wpIn F n P a w K Q):o.wpIn F n P a w K' Q':=by
 unfold Oper.wpIn at*
 refine ⟨hh.1,?_⟩
 have hh:=hh.2
 generalize (o.semAt F.round a.eval).run P w=r at*
 cases r with
 |ok x w'=>
  cases x<;>simp only [Oper.uponIn] at hh⊢ <;>
   first
    |exact h _ _ hh
    |exact ⟨hh.1,CallsIn.mono hh.2 (fun e w'' he=>by cases e<;>first|exact h _ _ he|exact hq _ _ _ he|exact q5s hq he)⟩
    |exact ⟨hh.1,RowsIn.mono hh.2 (fun _ _ he=>h _ _ he)⟩
    |exact ⟨hh.1,RoundIn.mono hh.2 (fun e w'' he=>by cases e<;>first|exact h _ _ he|exact hq _ _ _ he|exact q5s hq he)⟩
 |halt x w'=>cases x<;>simp only [Oper.uponIn] at hh⊢ <;>first|exact hq _ _ _ hh|exact hh
theorem q3W {F:Fence} {n:Nat} {all:Array Oper} {Q Q':Exit→Act→World→Prop} (hq:∀e a w,Q e a w→Q' e a w):∀ (l:List Nat) (a:Act) (w:World),wpOpsIn F n P all Q l a w→wpOpsIn F n P all Q' l a w
 | [],a,w,h=>hq _ _ _ h
 |i :: l,a,w,h=>by
  unfold wpOpsIn at h⊢
  split
  · rename_i ho;simp only [ho] at h;exact q3W hq l a w h
  rename_i o ho
  simp only [ho] at h
  split
  · rename_i hw;rw [if_pos hw] at h;exact z3p (fun a w h=>q3W hq l a w h) hq h
  rename_i hw;rw [if_neg hw] at h;exact ⟨h.1,q3W hq l _ w h.2⟩

def noStop:List It→Bool
 | []=>true
 |.code _ :: k=>noStop k
 |.ops _ _ :: k=>noStop k
 |.blk _ :: k=>noStop k
 |_ :: _=>false
theorem q3e {G G':Ghost} {F:Fence} {n:Nat} {E E':EnD} {Q Q':Exit→Act→World→Prop} (hq:∀e a w,Q' e a w→Q e a w):∀ (k:List It),noStop k=true→
 (∀a w, @wpT G' F n P E' Q' k a w→ @wpT G F n P E Q k a w)∧(∀id a w, @exitT G' F n P E' Q' id k a w→ @exitT G F n P E Q id k a w)
 | [],_=>⟨fun a w h=>by simp only [wpT] at h⊢;exact hq _ _ _ h,fun id a w h=>by simp only [exitT] at h⊢;exact hq _ _ _ h⟩
 |.code c :: k,hs=>by
  obtain ⟨h1,h2⟩:=q3e (G:=G) (G':=G') (F:=F) (n:=n) (E:=E) (E':=E') hq k hs
  refine ⟨fun a w h=> ?_,fun id a w h=>by simp only [exitT] at h⊢;exact h2 id a w h⟩
  simp only [wpT] at h⊢
  refine wpIn_mono h fun e a w hh=> ?_
  cases e with
  |normal=>exact h1 a w hh
  |exit id=>exact h2 id a w hh
  |_=>exact hq _ _ _ hh
 |.ops all l :: k,hs=>by
  obtain ⟨h1,h2⟩:=q3e (G:=G) (G':=G') (F:=F) (n:=n) (E:=E) (E':=E') hq k hs
  refine ⟨fun a w h=> ?_,fun id a w h=>by simp only [exitT] at h⊢;exact h2 id a w h⟩
  simp only [wpT] at h⊢
  refine q3W (fun e a w hh=> ?_) l a w h
  cases e with
  |normal=>exact h1 a w hh
  |exit id=>exact h2 id a w hh
  |_=>exact hq _ _ _ hh
 |.blk id' :: k,hs=>by
  obtain ⟨h1,h2⟩:=q3e (G:=G) (G':=G') (F:=F) (n:=n) (E:=E) (E':=E') hq k hs
  refine ⟨fun a w h=>by simp only [wpT] at h⊢;exact h1 a w h,fun id a w h=> ?_⟩
  simp only [exitT] at h⊢
  split
  · rw [if_pos (by assumption)] at h;exact h1 a w h
  rw [if_neg (by assumption)] at h;exact h2 id a w h
variable {td:List IT}
def noStopI:List IT→Bool
 | []=>true
 |.ic _ :: k=>noStopI k
 |.ops _ :: k=>noStopI k
 |.blk _ :: k=>noStopI k
 |_ :: _=>false
theorem q2P:∀ {td:List IT} {r:List It},RelT P td r→noStopI td=true→noStop r=true
 | [],r,h,_=>by cases h;rfl
 |.ic c :: k,r,h,hs=>by obtain ⟨c',r',rfl,_,hr⟩:=h;exact (q2P (td:=k) (r:=r') hr hs:noStop r'=true)
 |.ops l :: k,r,h,hs=>by obtain ⟨all,idx,r',rfl,_,hr⟩:=h;exact (q2P (td:=k) (r:=r') hr hs:noStop r'=true)
 |.blk id :: k,r,h,hs=>by obtain ⟨r',rfl,hr⟩:=h;exact (q2P (td:=k) (r:=r') hr hs:noStop r'=true)
end Go.Sx
set_option linter.unusedSectionVars false
namespace Go.Sx
open Go

variable {P:Program} {AQ:Ex→List SV→List SObj→Prop} {k0:Nat} {k:List It} {t:List SV} {H:List SObj}

def far:Obj→Prop
 |.loop _=>True
 |.deferred _=>True
 |_=>False
def FarAt (w:World) (b:Nat):Prop:=∃o,w.heap[b]?=some o∧far o
def Perm (E:En) (b:Nat):Prop:=E.C.w.heap.size≤b∨OwnB E.C E.H b
theorem z3L {C:Cx} {b:Nat} (hw:Wd C H) (h:OwnB C H b):¬FarAt C.w b:=by
 obtain ⟨i,o,ho,hl,hb⟩:=h
 have:=hw.obj i o ho
 rintro ⟨x,hx,hf⟩
 cases o with
 |dead=>simp [SObj.live] at hl
 |mark n=>simp [SObj.live] at hl
 |cells T cs=>
  obtain ⟨b',vs,h1,h2,_⟩:=this
  rw [hb] at h1;cases h1
  rw [hx] at h2;cases h2;exact hf
 |row t xs=>
  rcases this with ⟨h1,_⟩ | ⟨b',arr,T',fz',h1,h2,h3,_⟩
  · rw [hb] at h1;cases h1
  rw [hb] at h1;cases h1
  rw [hx] at h2;cases h2;exact hf
 |map kk ks vs=>
  obtain ⟨b',h1,es,cl,h2,_⟩:=this
  rw [hb] at h1;cases h1
  rw [hx] at h2;cases h2;exact hf
theorem z4I {w:World} {b:Nat} (h:FarAt w b):World.bsize w b=none:=by
 obtain ⟨o,ho,hf⟩:=h
 unfold World.bsize
 rw [ho]
 cases o<;>first|rfl|exact hf.elim

def unmk:SObj→SObj
 |.mark _=>.dead
 |o=>o
theorem z7f {o:SObj}:(unmk o).live=true ↔ o.live=true:=by cases o<;>simp [unmk,SObj.live]
theorem j1F {o:SObj} (h:o.live=true):unmk o=o:=by cases o<;>first|rfl|simp [SObj.live] at h
open Classical in
noncomputable def rowOf (S:Nat→Prop) (b:Nat):Option Nat:=if S b then some b else none
noncomputable def startE (um:Bool) (S:Nat→Prop) (C:Cx) (H:List SObj):EnD:=
 {C:={C with ρ:=fun h=>if h<C.n then C.ρ h else rowOf S (h-C.n)},H:=(if um then H.map unmk else H)++List.replicate C.w.heap.size (.row .u8 []),base:=[]}
theorem q0N {um:Bool} {S:Nat→Prop} {C:Cx} {b:Nat} (hn:C.n=H.length):OwnB (startE um S C H).C (startE um S C H).H b ↔ OwnB C H b∨(S b∧b<C.w.heap.size):=by
 have hlen:(if um then H.map unmk else H).length=H.length:=by cases um<;>simp
 constructor
 · rintro ⟨h,o,ho,hl,hb⟩
   simp only [startE] at ho hb
   rcases Nat.lt_or_ge h H.length with hh|hh
   · rw [List.getElem?_append_left (by rw [hlen];exact hh)] at ho
     rw [if_pos (by omega)] at hb
     cases um
     · exact .inl ⟨h,o,ho,hl,hb⟩
     simp only [if_true,List.getElem?_map,Option.map_eq_some_iff] at ho
     obtain ⟨o',ho',rfl⟩:=ho
     exact .inl ⟨h,o',ho',z7f.1 hl,hb⟩
   rw [List.getElem?_append_right (by rw [hlen];exact hh),hlen] at ho
   rw [if_neg (by omega)] at hb
   have h1:=(List.getElem?_eq_some_iff.1 ho).1
   rw [List.length_replicate] at h1
   unfold rowOf at hb
   split at hb
   · rename_i hS
     cases hb
     rw [hn]
     exact .inr ⟨hn▸hS,h1⟩
   cases hb
 rintro (⟨h,o,ho,hl,hb⟩ | ⟨hS,hb⟩)
 · have hh:=(List.getElem?_eq_some_iff.1 ho).1
   refine ⟨h,o,?_,hl,?_⟩
   · simp only [startE]
     rw [List.getElem?_append_left (by rw [hlen];exact hh)]
     cases um
     · exact ho
     simp only [if_true,List.getElem?_map,ho,Option.map_some,j1F hl]
   simp only [startE]
   rw [if_pos (by omega)];exact hb
 refine ⟨H.length+b,.row .u8 [],?_,rfl,?_⟩
 · simp only [startE]
   rw [List.getElem?_append_right (by rw [hlen];omega),hlen,Nat.add_sub_cancel_left,List.getElem?_replicate,if_pos hb]
 simp only [startE]
 rw [if_neg (by omega),hn,Nat.add_sub_cancel_left]
 unfold rowOf
 rw [if_pos hS]
theorem q3S {um:Bool} {S:Nat→Prop} {C:Cx} {m:Nat} (h0:0<H.length) (h:(startE um S C H).H[0]?=some (.mark m)):um=false∧H[0]?=some (.mark m):=by
 simp only [startE] at h
 rw [List.getElem?_append_left (by cases um<;>simpa using h0)] at h
 cases um
 · exact ⟨rfl,h⟩
 simp only [if_true,List.getElem?_map,Option.map_eq_some_iff] at h
 obtain ⟨o,_,ho⟩:=h
 cases o<;>simp [unmk] at ho
theorem q4S {um:Bool} {S:Nat→Prop} {C:Cx} (hn:C.n=H.length):Ext (startE um S C H) C H:=
 ⟨⟨Nat.le_refl _,fun h hh=>(if_pos (show h<C.n from hh)).symm,Keeps.refl _ _,fun _ _ h=>h⟩,Nat.le_refl _,rfl,rfl,rfl,fun _ _ _=>rfl,fun _ h=>.inl h,fun b hb=>.inr ((q0N hn).2 (.inl hb)),
  fun m h0 hm=>(q3S (show 0<H.length by have:0<C.n:=h0;omega) hm).2⟩
theorem q7q {um:Bool} {S:Nat→Prop} {C:Cx} (hn:C.n=H.length) (h:TabT C H) (hS:∀b,S b→¬TBlk b):TabT (startE um S C H).C (startE um S C H).H:=
 h.keep (Keeps.refl _ _) fun b hT hb ho=>⟨hb,fun x=>((q0N hn).1 x).elim ho fun y=>hS b y.1 hT,rfl⟩
theorem q3s {um:Bool} {S:Nat→Prop} {C C':Cx} (h:Evo (startE um S C H).C C'):Evo C C':=
 ⟨h.n,fun x hx=>(h.ρ x hx).trans (if_pos hx),h.I,h.sz⟩
theorem q9y {E:En} {um:Bool} {S:Nat→Prop} {C C':Cx} {H':List SObj} (hw:Wd C H) (hx:Ext E C H) (hS:∀b,S b→Perm E b) (hu:um=true→∀n,E.H[0]?≠some (.mark n)) (k:Ext (startE um S C H) C' H'):Ext E C' H':=by
 have hown:∀b,OwnB (startE um S C H).C (startE um S C H).H b→Perm E b:=fun b hb=>((q0N hw.n).1 hb).elim (hx.ownNew b) fun h=>hS b h.1
 refine ⟨hx.evo.trans (q3s k.evo),Nat.le_trans hx.size k.size,k.os.trans hx.os,k.tape.trans hx.tape,k.output.trans hx.output,fun b h1 h2=> ?_,fun b hb=> ?_,fun b hb=> ?_,fun m h0 hm=> ?_⟩
 · exact (k.frame b (Nat.lt_of_lt_of_le h1 hx.size) fun ho=>(hown b ho).elim (fun x=>absurd h1 (Nat.not_lt.2 x)) h2).trans (hx.frame b h1 h2)
 · rcases k.immNew b hb with g| ⟨g,u⟩
   · exact orMap (hx.immNew b g) id fun ⟨x,u⟩=>⟨x,u.keep (k.evo.I b g).2⟩
   exact .inr ⟨g.elim (fun x=>.inl (Nat.le_trans hx.size x)) (hown b),u⟩
 · exact (k.ownNew b hb).elim (fun x=>.inl (Nat.le_trans hx.size x)) (hown b)
 have h1:=hx.keep0 m h0 hm
 have hn:=hw.n
 have hlt:0<C.n:=Nat.lt_of_lt_of_le h0 hx.evo.n
 cases um with
 |true=>exact absurd hm (hu rfl m)
 |false=>
  refine k.keep0 m hlt ?_
  simp only [startE]
  rw [List.getElem?_append_left (by simpa using (show 0<H.length by omega))]
  exact h1

structure FG where
 um:Bool
 core:EnD→Cx→List SObj→(Nat→Prop)→Prop
 next:∀ {E C C' H H' S},Ext ⟨C,H⟩ C' H'→core E C H S→core E C' H' S
 own:∀ {E C C' H H' S},Wd C H→C'.w=C.w→(∀b,C.I b→C'.I b)→(∀b,C'.I b→C.I b∨OwnB C H b)→(∀b,OwnB C' H' b→OwnB C H b∨(E.C.w.heap.size≤b∧¬S b))→(∀n,0<E.C.n→H[0]?=some (.mark n)→H'[0]?=some (.mark n))→E.C.n≤C'.n→core E C H S→core E C' H' S
 perm:∀ {E C H S b},core E C H S→S b→Perm E.toEn b∧¬C.I b∧¬OwnB C H b∧b<C.w.heap.size
 abide:∀ {E C H S w' I'},core E C H S→C.w.heap.size≤w'.heap.size→(∀b,b<C.w.heap.size→(b<E.C.w.heap.size∨S b∨C.I b∨OwnB C H b)→w'.heap[b]?=C.w.heap[b]?)→(∀b,C.I b→w'.heap[b]?=C.w.heap[b]?)→w'.os=C.w.os→w'.tape=C.w.tape→w'.output=C.w.output→
  (∀b m,World.bsize C.w b=some m→World.bsize w' b=some m)→(∀b,C.I b→I' b)→(∀b,I' b→C.I b∨(E.C.w.heap.size≤b∧¬S b∧¬OwnB C H b∧Unf w' b))→core E {C with w:=w',I:=I'} H S
 lo:∀ {E C H S b},core E C H S→S b→FarAt C.w b→b<E.C.w.heap.size
 start:∀ {E C H S},Wd C H→core E C H S→core (startE um S C H) C H S
 back:∀ {E C H S C' H' S'},Wd C H→core E C H S→Ext (startE um S C H) C' H'→core (startE um S C H) C' H' S'→core E C' H' S'
 unm:∀ {E C H S},um=true→core E C H S→∀n,E.H[0]?≠some (.mark n)
 base:∀ {E C H S} (ds:List Deferred),core E C H S→core {E with base:=ds} C H S
 nt:∀ {E C H S b},core E C H S→S b→¬TBlk b

def noFG:FG where
 um:=false
 core:=fun _ _ _ S=>∀b,¬S b
 next:=fun _ h=>h
 own:=fun _ _ _ _ _ _ _ h=>h
 perm:=fun h hS=>absurd hS (h _)
 abide:=fun h _ _ _ _ _ _ _ _ _=>h
 lo:=fun h hS=>absurd hS (h _)
 start:=fun _ h=>h
 back:=fun _ _ _ h=>h
 unm:=fun h=>by cases h
 base:=fun _ h=>h
 nt:=fun h hS=>absurd hS (h _)

def chgC (C:Cx) (b:Nat) (o:Obj):Cx:={C with w:={C.w with heap:=C.w.heap.setIfInBounds b o}}
theorem q0X {C:Cx} {D b:Nat} {o:Obj} (h:b≠D):(chgC C D o).w.heap[b]?=C.w.heap[b]?:=by
 simp only [chgC];rw [Array.getElem?_setIfInBounds_ne (Ne.symm h)]
theorem j1G {C:Cx} {D:Nat} {o x:Obj} (h:C.w.heap[D]?=some x):(chgC C D o).w.heap[D]?=some o:=by
 simp only [chgC];rw [Array.getElem?_setIfInBounds_self_of_lt (Array.getElem?_eq_some_iff.1 h).1]
theorem q3c {C:Cx} {D:Nat} {o:Obj}:(chgC C D o).w.heap.size=C.w.heap.size:=by simp [chgC]
theorem q8K {C:Cx} {D:Nat} {o:Obj} (h:FarAt C.w D) (b m:Nat) (hm:World.bsize C.w b=some m):World.bsize (chgC C D o).w b=some m:=by
 by_cases e:b=D
 · subst e;rw [z4I h] at hm;cases hm
 unfold World.bsize at hm⊢;rw [q0X e];exact hm
theorem FG.chg (g:FG) {E:EnD} {C:Cx} {S:Nat→Prop} {D:Nat} {o:Obj} (hc:g.core E C H S) (h1:E.C.w.heap.size≤D) (h2:¬C.I D) (h3:¬OwnB C H D) (h4:FarAt C.w D):g.core E (chgC C D o) H S:=by
 refine g.abide (w':=(chgC C D o).w) (I':=C.I) hc (by rw [q3c];exact Nat.le_refl _) (fun b _ hb=>q0X fun e=> ?_) (fun b hb=>q0X fun e=>h2 (e▸hb)) rfl rfl rfl (q8K h4) (fun _ h=>h) (fun _ h=>.inl h)
 subst e
 rcases hb with hb|hb|hb|hb
 · exact absurd hb (Nat.not_lt.2 h1)
 · exact absurd (g.lo hc hb h4) (Nat.not_lt.2 h1)
 · exact h2 hb
 exact h3 hb

theorem MarkOk.far {E:En} {C:Cx} {D:Nat} (h:MarkOk E C H D):FarAt C.w D:=⟨_,h.at_,trivial⟩
theorem MarkOk.next {E:En} {C C':Cx} {H':List SObj} {D:Nat} (hx:Ext ⟨C,H⟩ C' H') (h:MarkOk E C H D):MarkOk E C' H' D:=by
 have hlt:D<C.w.heap.size:=(Array.getElem?_eq_some_iff.1 h.at_).1
 refine ⟨h.sz,fun hi=> ?_,fun ho=> ?_,(hx.frame D hlt h.own).trans h.at_⟩
 · exact (hx.immNew D hi).elim h.imm fun ⟨x,_⟩=>x.elim (fun x=>absurd hlt (Nat.not_lt.2 x)) h.own
 exact (hx.ownNew D ho).elim (fun x=>absurd hlt (Nat.not_lt.2 x)) h.own
theorem MarkOk.same {E:En} {C C':Cx} {H':List SObj} {D:Nat} (e:C'.w=C.w) (hi:∀b,C'.I b→C.I b∨OwnB C H b) (ho:∀b,OwnB C' H' b→OwnB C H b) (h:MarkOk E C H D):MarkOk E C' H' D:=
 ⟨h.sz,fun x=>(hi D x).elim h.imm h.own,fun x=>h.own (ho D x),by rw [e];exact h.at_⟩

@[reducible] def fgG (g:FG):Ghost where
 inv0:=fun E C H=>∃S,g.core E C H S
 fin:=fun E C H ds=>ds=E.base∧∃S,g.core E C H S
 toFin0:=fun _ h=>⟨rfl,h⟩
 next0:=fun hx ⟨S,h⟩=>⟨S,g.next hx h⟩
 same0:=fun hw e hk hi ho hm hl ⟨S,h⟩=>⟨S,g.own hw e hk hi (fun b hb=>.inl (ho b hb)) hm hl h⟩
end Go.Sx
set_option linter.unusedSectionVars false
namespace Go.Sx
open Go

variable {P:Program} {AQ:Ex→List SV→List SObj→Prop} {k0:Nat} {k:List It} {t:List SV} {H:List SObj}

@[reducible] def topG (g:FG) (Ds:List Nat):Ghost where
 inv0:=fun E C H=>(∃S,g.core E C H S)∧Ds.Nodup∧∀D∈Ds,MarkOk E.toEn C H D
 fin:=fun E C H ds=>∃Ds':List Nat,ds=Ds'.map markD++E.base∧(∃S,g.core E C H S)∧(Ds'++Ds).Nodup∧∀D∈Ds'++Ds,MarkOk E.toEn C H D
 toFin0:=fun _ h=>⟨[],rfl,h.1,by simpa using h.2.1,by simpa using h.2.2⟩
 next0:=fun hx h=>⟨(fgG g).next0 hx h.1,h.2.1,fun D hD=>(h.2.2 D hD).next hx⟩
 same0:=fun hw e hk hi ho hm hl h=>⟨(fgG g).same0 hw e hk hi ho hm hl h.1,h.2.1,fun D hD=>(h.2.2 D hD).same e hi ho⟩
 rd:=fun r=>r=none
 rd0:=rfl

def Pins (L:List (Nat×Obj)) (C:Cx) (H:List SObj) (S:Nat→Prop):Prop:=∀x∈L,¬C.I x.1∧¬OwnB C H x.1∧¬S x.1∧C.w.heap[x.1]?=some x.2∧far x.2
theorem Pins.next {L:List (Nat×Obj)} {S:Nat→Prop} {C C':Cx} {H':List SObj} (hx:Ext ⟨C,H⟩ C' H') (h:Pins L C H S):Pins L C' H' S:=fun x hxL=>by
 obtain ⟨h1,h2,hS,h3,h4⟩:=h x hxL
 have hlt:x.1<C.w.heap.size:=(Array.getElem?_eq_some_iff.1 h3).1
 refine ⟨fun hi=> ?_,fun ho=> ?_,hS,(hx.frame _ hlt h2).trans h3,h4⟩
 · exact (hx.immNew _ hi).elim h1 fun ⟨y,_⟩=>y.elim (fun y=>absurd hlt (Nat.not_lt.2 y)) h2
 exact (hx.ownNew _ ho).elim (fun y=>absurd hlt (Nat.not_lt.2 y)) h2
theorem Pins.same {L:List (Nat×Obj)} {S:Nat→Prop} {C C':Cx} {H':List SObj} (e:C'.w=C.w) (hi:∀b,C'.I b→C.I b∨OwnB C H b) (ho:∀b,OwnB C' H' b→OwnB C H b) (h:Pins L C H S):Pins L C' H' S:=fun x hxL=>by
 obtain ⟨h1,h2,hS,h3,h4⟩:=h x hxL
 exact ⟨fun y=>(hi _ y).elim h1 h2,fun y=>h2 (ho _ y),hS,by rw [e];exact h3,h4⟩
@[reducible] def pinG (g:FG) (L:List (Nat×Obj)):Ghost where
 inv0:=fun E C H=>∃S,g.core E C H S∧Pins L C H S
 fin:=fun E C H ds=>ds=E.base∧∃S,g.core E C H S∧Pins L C H S
 toFin0:=fun _ h=>⟨rfl,h⟩
 next0:=fun hx ⟨S,h⟩=>⟨S,g.next hx h.1,h.2.next hx⟩
 same0:=fun hw e hk hi ho hm hl ⟨S,h⟩=>⟨S,g.own hw e hk hi (fun b hb=>.inl (ho b hb)) hm hl h.1,h.2.same e hi ho⟩

theorem z0S {E:En} {C:Cx} {D D':Nat} (h:MarkOk E C H D') (hne:D'≠D):MarkOk E (dropD C D) H D':=⟨h.sz,h.imm,h.own,(q1k hne).trans h.at_⟩
theorem q7j (g:FG) {E:EnD} {S:Nat→Prop}:∀ (Ds:List Nat) {C:Cx},g.core E C H S→Ds.Nodup→(∀D∈Ds,MarkOk E.toEn C H D)→g.core E (Ds.foldl dropD C) H S
 | [],_,h,_,_=>h
 |D :: Ds,C,h,hnd,hok=>by
  have hD:=hok D (by simp)
  exact q7j g Ds (C:=dropD C D) (g.chg (o:=.deferred none) h hD.sz hD.imm hD.own hD.far) (List.nodup_cons.1 hnd).2 fun D' hD'=>z0S (hok D' (by simp [hD'])) fun e=>(List.nodup_cons.1 hnd).1 (e▸hD')

theorem z4L (g:FG) {f:FuncId} {fn:Func} {c:Code} {args:List SV} {K:Out→List SObj→Prop} (hf:P.funcs[f]?=some fn) (hb:fn.body=some c)
 (h: @Sound (topG g []) P (retQ P fn K) ⟨H.length,[.code c],args++List.replicate (fn.ntmps-args.length) .any,H⟩): @VCallG (fgG g) P f args H K:=by
 rintro E C vs hw ⟨ht,S,hc⟩ hv
 refine (@q6j (topG g []) P H f fn c args K (startE g.um S C H) C vs hf hb rfl (by show C.n≤_;rw [hw.n];exact Nat.le_refl _) hw (q4S hw.n) ⟨⟨ht.tab,ht.tab.lt⟩,⟨S,g.start hw hc⟩,List.nodup_nil,fun _ h=>by simp at h⟩
  (fun C' H'=>∃S',g.core (startE g.um S C H) C' H' S') ?_ hv h).mono ?_
 · rintro C' H' ds hw' hx' ⟨Ds',e,⟨S',hc'⟩,hnd,hok⟩
   rw [List.append_nil] at hnd hok
   exact ⟨Ds',by rw [e];exact List.append_nil _,hnd,hok,S',q7j g Ds' hc' hnd hok⟩
 rintro e w' ⟨o,H',C',k1,k2,k3,k4,⟨S',k5⟩,k6⟩
 exact ⟨o,H',C',k1,k2,k3, @Stp.mk (fgG g) E C H C' H' (q3s k4.evo) (fun k=>q9y hw k (fun b hb=>(g.perm hc hb).1) (fun hu=>g.unm hu hc) k4) (fun hx0=>⟨⟨(q7q hw.n hx0.1.tab fun b hb=>g.nt hc hb).next k4,hx0.1.old⟩,S',g.back hw hc k4 k5⟩),k6⟩
theorem q1v (g:FG) {f:FuncId} {fi:FI} {args:List SV} {K:Out→List SObj→Prop} (h:finfo P f=some fi)
 (hs: @SoundI (topG g []) P (retF P fi.results K) ⟨H.length,[.ic fi.code],args++List.replicate (fi.ntmps-args.length) .any,H⟩): @VCG (fgG g) P f args H K:=by
 obtain ⟨fn,c,hf,hb,hc,h1,h2,hen⟩:=j3i h
 have hq:retQ P fn K=retF P fi.results K:=by rw [←h2];funext e t H;cases e<;>rfl
 refine ⟨hen, @z4L P H g f fn c args K hf hb ?_⟩
 rw [hq,h1]
 exact @q0e (topG g []) P (retF P fi.results K) _ _ _ _ _ hs ⟨c,[],rfl,hc,rfl⟩
theorem q3J {f:FuncId} {args:List SV} {K:Out→List SObj→Prop} (h: @VCG (fgG noFG) P f args H K):VC P f args H K:=
 ⟨h.1,fun C vs hw ht hv=>(h.2 ⟨⟨C,H⟩,[]⟩ C vs hw ⟨ht.here,fun _=>False,fun _ h=>h⟩ hv).mono fun _ _ ⟨o,H',C',k1,k2,k3,k4,k5⟩=>⟨o,H',C',k1,k2,k3, @Stp.ext (fgG noFG) _ _ _ _ _ k4 (Ext.refl _ _),k5⟩⟩

structure FJ (B:Nat) (J:Nat→(Nat→Prop)→World→(Nat→Prop)→Prop):Prop where
 abide:∀ {m S w I w' I'},J m S w I→w.heap.size≤w'.heap.size→(∀b,b<w.heap.size→(b<B∨S b∨I b)→w'.heap[b]?=w.heap[b]?)→(∀b,I b→w'.heap[b]?=w.heap[b]?)→w'.os=w.os→w'.tape=w.tape→w'.output=w.output→
  (∀b m,World.bsize w b=some m→World.bsize w' b=some m)→(∀b,I b→I' b)→(∀b,I' b→I b∨(B≤b∧¬S b∧Unf w' b))→J m S w' I'
 fp:∀ {m S w I b},J m S w I→S b→¬I b∧b<w.heap.size
 lo:∀ {m S w I b},J m S w I→S b→FarAt w b→b<B
 nt:∀ {m S w I b},J m S w I→S b→¬TBlk b
structure YCore (B:Nat) (J:Nat→(Nat→Prop)→World→(Nat→Prop)→Prop) (E:EnD) (C:Cx) (H:List SObj) (S:Nat→Prop):Prop where
 pos:0<E.C.n
 n:E.C.n≤C.n
 unm:∀n,E.H[0]?≠some (.mark n)
 lo:B≤E.C.w.heap.size
 sz:E.C.w.heap.size≤C.w.heap.size
 own:∀b,OwnB C H b→Perm E.toEn b∧B≤b
 st:∃m,H[0]?=some (.mark m)∧J m S C.w C.I
 fp:∀b,S b→Perm E.toEn b∧¬OwnB C H b
def yFG {B:Nat} {J:Nat→(Nat→Prop)→World→(Nat→Prop)→Prop} (hJ:FJ B J):FG where
 um:=true
 core:=YCore B J
 next:=fun {E C C' H H' S} hx h=>by
  obtain ⟨m,h1,h2⟩:=h.st
  have hS:∀b,S b→¬C.I b∧b<C.w.heap.size:=fun b hb=>hJ.fp h2 hb
  refine ⟨h.pos,Nat.le_trans h.n hx.evo.n,h.unm,h.lo,Nat.le_trans h.sz hx.size,fun b hb=> ?_,⟨m,hx.keep0 m (Nat.lt_of_lt_of_le h.pos h.n) h1,?_⟩,fun b hb=>⟨(h.fp b hb).1,fun ho=> ?_⟩⟩
  · rcases hx.ownNew b hb with x|x
    · exact ⟨.inl (Nat.le_trans h.sz x),Nat.le_trans h.lo (Nat.le_trans h.sz x)⟩
    exact h.own b x
  · refine hJ.abide h2 hx.size (fun b hb h3=> ?_) (fun b hb=>(hx.evo.I b hb).2) hx.os hx.tape hx.output hx.evo.sz (fun b hb=>(hx.evo.I b hb).1) fun b hb=> ?_
    · rcases h3 with h3|h3|h3
      · exact hx.frame b hb fun ho=>absurd h3 (Nat.not_lt.2 (h.own b ho).2)
      · exact hx.frame b hb fun ho=>(h.fp b h3).2 ho
      exact (hx.evo.I b h3).2
    rcases hx.immNew b hb with x| ⟨x|x,u⟩
    · exact .inl x
    · exact .inr ⟨Nat.le_trans h.lo (Nat.le_trans h.sz x),fun hs=>absurd (hS b hs).2 (Nat.not_lt.2 x),u⟩
    exact .inr ⟨(h.own b x).2,fun hs=>(h.fp b hs).2 x,u⟩
  rcases hx.ownNew b ho with x|x
  · exact absurd (hS b hb).2 (Nat.not_lt.2 x)
  exact (h.fp b hb).2 x
 own:=fun {E C C' H H' S} hw e hk hi ho hm hl h=>by
  obtain ⟨m,h1,h2⟩:=h.st
  refine ⟨h.pos,hl,h.unm,h.lo,by rw [e];exact h.sz,fun b hb=> ?_,⟨m,hm m h.pos h1,?_⟩,fun b hb=>⟨(h.fp b hb).1,fun h3=> ?_⟩⟩
  · rcases ho b hb with x| ⟨x,_⟩
    · exact h.own b x
    exact ⟨.inl x,Nat.le_trans h.lo x⟩
  · rw [e]
    refine hJ.abide h2 (Nat.le_refl _) (fun _ _ _=>rfl) (fun _ _=>rfl) rfl rfl rfl (fun _ _ h=>h) hk fun b hb=>orMap (hi b hb) id fun x=>⟨(h.own b x).2,fun hs=>(h.fp b hs).2 x,q3O hw x⟩
  exact (ho b h3).elim (h.fp b hb).2 fun x=>x.2 hb
 perm:=fun {E C H S b} h hS=>by
  obtain ⟨m,h1,h2⟩:=h.st
  exact ⟨(h.fp b hS).1,(hJ.fp h2 hS).1,(h.fp b hS).2,(hJ.fp h2 hS).2⟩
 abide:=fun {E C H S w' I'} h hs hf hkI h1 h2 h3 hz hI hI'=>by
  obtain ⟨m,g1,g2⟩:=h.st
  refine ⟨h.pos,h.n,h.unm,h.lo,Nat.le_trans h.sz hs,h.own,⟨m,g1,?_⟩,h.fp⟩
  refine hJ.abide g2 hs (fun b hb h4=>hf b hb ?_) hkI h1 h2 h3 hz hI fun b hb=>orMap (hI' b hb) id fun ⟨x,y,_,u⟩=>⟨Nat.le_trans h.lo x,y,u⟩
  rcases h4 with h4|h4|h4
  · exact .inl (Nat.lt_of_lt_of_le h4 h.lo)
  · exact .inr (.inl h4)
  exact .inr (.inr (.inl h4))
 lo:=fun {E C H S b} h hS hf=>by
  obtain ⟨m,g1,g2⟩:=h.st
  exact Nat.lt_of_lt_of_le (hJ.lo g2 hS hf) h.lo
 start:=fun {E C H S} hw h=>by
  obtain ⟨m,g1,g2⟩:=h.st
  have hlt:0<H.length:=(List.getElem?_eq_some_iff.1 g1).1
  refine ⟨by show 0<C.n;rw [hw.n];exact hlt,Nat.le_refl _,fun n hn=>(by cases (q3S hlt hn).1),Nat.le_trans h.lo h.sz,Nat.le_refl _,fun b hb=>⟨.inr ((q0N hw.n).2 (.inl hb)),(h.own b hb).2⟩,⟨m,g1,g2⟩,fun b hb=>⟨.inr ((q0N hw.n).2 (.inr ⟨hb,(hJ.fp g2 hb).2⟩)),(h.fp b hb).2⟩⟩
 back:=fun {E C H S C' H' S'} hw h hx k=>by
  have hp:∀b,Perm (startE true S C H).toEn b→Perm E.toEn b:=fun b hb=>by
   rcases hb with hb|hb
   · exact .inl (Nat.le_trans h.sz hb)
   exact ((q0N hw.n).1 hb).elim (fun x=>(h.own b x).1) fun x=>(h.fp b x.1).1
  exact ⟨h.pos,Nat.le_trans h.n (q3s hx.evo).n,h.unm,h.lo,Nat.le_trans h.sz hx.size,fun b hb=>⟨hp b (k.own b hb).1,(k.own b hb).2⟩,k.st,fun b hb=>⟨hp b (k.fp b hb).1,(k.fp b hb).2⟩⟩
 unm:=fun _ h=>h.unm
 nt:=fun {E C H S b} h hS=>by
  obtain ⟨m,h1,h2⟩:=h.st
  exact hJ.nt h2 hS
 base:=fun _ h=>⟨h.pos,h.n,h.unm,h.lo,h.sz,h.own,h.st,h.fp⟩
end Go.Sx
set_option linter.unusedSectionVars false
namespace Go.Sx
open Go

variable {P:Program} {AQ:Ex→List SV→List SObj→Prop} {k0:Nat} {k:List It} {t:List SV} {H:List SObj}

structure Fr (Q:Nat→Prop) (C C':Cx):Prop where
 size:C.w.heap.size≤C'.w.heap.size
 os:C'.w.os=C.w.os
 tape:C'.w.tape=C.w.tape
 output:C'.w.output=C.w.output
 keep:Keeps C.I C'.I C.w C'.w
 sz:∀b m,World.bsize C.w b=some m→World.bsize C'.w b=some m
 frame:∀b,b<C.w.heap.size→¬Q b→C'.w.heap[b]?=C.w.heap[b]?
 imm:∀b,C'.I b→C.I b∨((C.w.heap.size≤b∨Q b)∧Unf C'.w b)
theorem Fr.trans {Q Q':Nat→Prop} {C C' C'':Cx} (h:Fr Q C C') (k:Fr Q' C' C'') (hq:∀b,Q' b→C.w.heap.size≤b∨Q b):Fr Q C C'' where
 size:=Nat.le_trans h.size k.size
 os:=k.os.trans h.os
 tape:=k.tape.trans h.tape
 output:=k.output.trans h.output
 keep:=h.keep.trans k.keep
 sz:=fun b m hm=>k.sz b m (h.sz b m hm)
 frame:=fun b hb hn=>(k.frame b (Nat.lt_of_lt_of_le hb h.size) fun h'=>(hq b h').elim (fun x=>absurd hb (Nat.not_lt.2 x)) hn).trans (h.frame b hb hn)
 imm:=fun b hb=>by
  rcases k.imm b hb with x| ⟨x,u⟩
  · exact orMap (h.imm b x) id fun ⟨y,u⟩=>⟨y,u.keep (k.keep b x).2⟩
  exact .inr ⟨x.elim (fun y=>.inl (Nat.le_trans h.size y)) (hq b),u⟩
theorem Fr.mono {Q Q':Nat→Prop} {C C':Cx} (h:Fr Q C C') (hq:∀b,Q b→Q' b):Fr Q' C C' where
 size:=h.size
 os:=h.os
 tape:=h.tape
 output:=h.output
 keep:=h.keep
 sz:=h.sz
 frame:=fun b hb hn=>h.frame b hb fun x=>hn (hq b x)
 imm:=fun b hb=>orMap (h.imm b hb) id fun ⟨y,u⟩=>⟨orMap y id (hq b),u⟩
theorem z2U {um:Bool} {S:Nat→Prop} {C C':Cx} {H':List SObj} (hn:C.n=H.length) (k:Ext (startE um S C H) C' H'):Fr (fun b=>OwnB C H b∨S b) C C' where
 size:=k.size
 os:=k.os
 tape:=k.tape
 output:=k.output
 keep:=k.evo.I
 sz:=k.evo.sz
 frame:=fun b hb hq=>k.frame b hb fun ho=>hq (orMap ((q0N hn).1 ho) id fun x=>x.1)
 imm:=fun b hb=>orMap (k.immNew b hb) id fun ⟨y,u⟩=>⟨orMap y id fun ho=>orMap ((q0N hn).1 ho) id fun x=>x.1,u⟩
theorem z0p {um:Bool} {S:Nat→Prop} {C C':Cx} {H':List SObj} (hn:C.n=H.length) (k:Ext (startE um S C H) C' H') {b:Nat} (hb:OwnB C' H' b):C.w.heap.size≤b∨OwnB C H b∨S b:=
 orMap (k.ownNew b hb) id fun ho=>orMap ((q0N hn).1 ho) id fun x=>x.1
theorem q6K {C:Cx} {D:Nat} {o:Obj} (hi:¬C.I D) (hf:FarAt C.w D):Evo C (chgC C D o):=⟨Nat.le_refl _,fun _ _=>rfl,fun b hb=>⟨hb,q0X fun e=>hi (e▸hb)⟩,q8K hf⟩
theorem j0h {C:Cx} {D:Nat} {o:Obj} (hi:¬C.I D) (hf:FarAt C.w D):Fr (fun b=>b=D) C (chgC C D o) where
 size:=by rw [q3c];exact Nat.le_refl _
 os:=rfl
 tape:=rfl
 output:=rfl
 keep:=(q6K hi hf).I
 sz:=q8K hf
 frame:=fun b _ hn=>q0X hn
 imm:=fun b hb=>.inl hb
theorem j4k {C:Cx} {D:Nat} {o:Obj} (hw:Wd C H) (hi:¬C.I D) (ho:¬OwnB C H D) (hf:FarAt C.w D):Wd (chgC C D o) H:=
 (j3Y (w':=(chgC C D o).w) hw q3c (fun b hb=>q0X fun e=>hb.elim (e▸hi) (e▸ho)) (q8K hf)).1
theorem j1C {E:En} {C:Cx} {D:Nat} {o:Obj} (hx:Ext E C H) (hi:¬C.I D) (hf:FarAt C.w D) (hs:E.C.w.heap.size≤D):Ext E (chgC C D o) H:=
 ⟨hx.evo.trans (q6K hi hf),by rw [q3c];exact hx.size,hx.os,hx.tape,hx.output,fun b hb ho=>(q0X (by omega)).trans (hx.frame b hb ho),fun b hb=>orMap (hx.immNew b hb) id fun ⟨x,u⟩=>⟨x,u.keep (q0X fun e=>hi (e▸hb))⟩,hx.ownNew,hx.keep0⟩
structure Rnd (S:Nat→Prop) (C C':Cx) (H H':List SObj) (S':Nat→Prop):Prop where
 evo:Evo C C'
 fr:Fr (fun b=>S b∨OwnB C H b) C C'
 own:∀b,OwnB C' H' b→OwnB C H b
 fp:∀b,S' b→(C.w.heap.size≤b∨S b∨OwnB C H b)∧¬OwnB C' H' b

theorem z9h {B:Nat} {J:Nat→(Nat→Prop)→World→(Nat→Prop)→Prop} {E:EnD} {C C':Cx} {H':List SObj} {S S':Nat→Prop} (h:YCore B J E C H S) (r:Rnd S C C' H H' S') (hm:∃m,H'[0]?=some (.mark m)∧J m S' C'.w C'.I):
 (Ext E.toEn C H→Ext E.toEn C' H')∧YCore B J E C' H' S':=by
 have hp:∀b,S b∨OwnB C H b→Perm E.toEn b:=fun b hb=>hb.elim (fun x=>(h.fp b x).1) fun x=>(h.own b x).1
 refine ⟨fun hx=>⟨hx.evo.trans r.evo,Nat.le_trans hx.size r.fr.size,r.fr.os.trans hx.os,r.fr.tape.trans hx.tape,r.fr.output.trans hx.output,fun b h1 h2=> ?_,fun b hb=> ?_,fun b hb=>hx.ownNew b (r.own b hb),fun m _ hm=>absurd hm (h.unm m)⟩,
  ⟨h.pos,Nat.le_trans h.n r.evo.n,h.unm,h.lo,Nat.le_trans h.sz r.fr.size,fun b hb=>h.own b (r.own b hb),hm,fun b hb=>⟨?_,(r.fp b hb).2⟩⟩⟩
 · exact (r.fr.frame b (Nat.lt_of_lt_of_le h1 hx.size) fun hq=>(hp b hq).elim (fun x=>absurd h1 (Nat.not_lt.2 x)) h2).trans (hx.frame b h1 h2)
 · rcases r.fr.imm b hb with x| ⟨x,u⟩
   · exact orMap (hx.immNew b x) id fun ⟨y,u⟩=>⟨y,u.keep (r.fr.keep b x).2⟩
   exact .inr ⟨x.elim (fun y=>.inl (Nat.le_trans hx.size y)) (hp b),u⟩
 rcases (r.fp b hb).1 with x|x
 · exact .inl (Nat.le_trans h.sz x)
 exact hp b x

theorem j1s {S S':Nat→Prop} {C C':Cx} {H':List SObj} (r:Rnd S C C' H H' S') (h:TabT C H) (hS:∀b,S b→¬TBlk b):TabT C' H':=
 h.keep r.evo.I fun b hT hb ho=>⟨Nat.lt_of_lt_of_le hb r.fr.size,fun x=>ho (r.own b x),r.fr.frame b hb fun y=>y.elim (fun z=>hS b z hT) ho⟩
def Hand (n:Nat) (H H':List SObj) (args args':List SV) (new:List SObj):Prop:=
 ∀ (C Cc:Cx) (Hc:List SObj) (vs:List Value),Wd C H→SV.denL C args vs→Wd Cc Hc→Hc.length=n→Cc.w=C.w→(∀b,Cc.I b ↔ C.I b)→(∀b,OwnB C H b→¬OwnB Cc Hc b)→
  ∃C2 Cc2:Cx,C2.w=C.w∧C2.I=C.I∧Wd C2 H'∧Evo C C2∧(∀b,OwnB C2 H' b→OwnB C H b)∧Cc2.w=C.w∧Cc2.I=Cc.I∧Wd Cc2 (Hc++new)∧Evo Cc Cc2∧SV.denL Cc2 args' vs∧(∀b,OwnB Cc2 (Hc++new) b→OwnB Cc Hc b∨(OwnB C H b∧¬OwnB C2 H' b))
theorem q0U {n:Nat} {args:List SV} (hc:SV.cleanL args=true):Hand n H H args args []:=fun C Cc Hc vs hw hv hwc _ e hi _=>
 ⟨C,Cc,rfl,rfl,hw,Evo.refl _,fun _ h=>h,e,rfl,by rw [List.append_nil];exact hwc,Evo.refl _,q0V (C:=C) (C':=Cc) (fun b hb=>⟨(hi b).2 hb,by rw [e]⟩) hc hv,fun b hb=>.inl (by rwa [List.append_nil] at hb)⟩

def YG (P:Program) (l B N:Nat) (J:Nat→(Nat→Prop)→World→(Nat→Prop)→Prop) (vw:Nat→Nat→List SV→List SObj→Prop):Prop:=
 ∀ (i:Nat) (T T':List SObj) (args:List SV) (C:Cx) (S:Nat→Prop) (vs:List Value),i<N→Wd C (.mark i :: T)→J i S C.w C.I→(∀b,OwnB C (.mark i :: T) b→B≤b∧¬S b)→SV.denL C args vs→
  (∀n,∃args' new,vw i n args' new∧Hand n (.mark i :: T) (.mark i :: T') args args' new)→
  ∃f tmps assign body,(Instr.yield l vs.toArray).run P C.w= .ok (.round l f tmps assign body) C.w∧
   ∀ (r:Option Nat) (n:Nat),RoundIn (Fw r) n P l f tmps assign body C.w fun e w'=>∃ (b:Bool) (C':Cx) (S':Nat→Prop),e= .returned (.bool b)∧C'.w=w'∧
    Wd C' (.mark (if b then i+1 else N+1+i) :: T')∧J (if b then i+1 else N+1+i) S' C'.w C'.I∧Rnd S C C' (.mark i :: T) (.mark (if b then i+1 else N+1+i) :: T') S'

theorem vyld {G:Ghost} {l B N:Nat} {J:Nat→(Nat→Prop)→World→(Nat→Prop)→Prop} {vw:Nat→Nat→List SV→List SObj→Prop} {i:Nat} {T T':List SObj} {args:List SV} {K:Out→List SObj→Prop}
 (hG:∀ {E C},G.inv E C (.mark i :: T)→∃S,YCore B J E C (.mark i :: T) S∧∀ (C':Cx) (H':List SObj) (S':Nat→Prop),YCore B J E C' H' S'→Rnd S C C' (.mark i :: T) H' S'→G.inv E C' H')
 (hJ:FJ B J) (yg:YG P l B N J vw) (hi:i<N) (hh:∀n,∃args' new,vw i n args' new∧Hand n (.mark i :: T) (.mark i :: T') args args' new)
 (hk:∀b:Bool,K (.ret (.raw (.bool b))) (.mark (if b then i+1 else N+1+i) :: T')): @VYld G P l args (.mark i :: T) K:=by
 intro E C vs hw hg hv
 obtain ⟨S,hc,hback⟩:=hG hg
 obtain ⟨m,h1,h2⟩:=hc.st
 have e:m=i:=by simpa using h1.symm
 subst e
 obtain ⟨f,tmps,assign,body,hrun,hround⟩:=yg m T T' args C S vs hi hw h2 (fun b hb=>⟨(hc.own b hb).2,fun hs=>(hc.fp b hs).2 hb⟩) hv hh
 refine ⟨f,tmps,assign,body,hrun,fun r n=>(hround r n).mono ?_⟩
 rintro e w' ⟨b,C',S',rfl,rfl,k1,k2,k3⟩
 obtain ⟨x1,x2⟩:=z9h hc k3 ⟨_,rfl,k2⟩
 exact ⟨.raw (.bool b),_,C',.bool b,rfl,hk b,rfl,k1, @Stp.mk G E C _ C' _ k3.evo x1 fun _=>hback C' _ S' x2 k3,by rw [SV.den]⟩
theorem z3b {Ds:List Nat} {l B N:Nat} {J:Nat→(Nat→Prop)→World→(Nat→Prop)→Prop} {vw:Nat→Nat→List SV→List SObj→Prop} {i:Nat} {T T':List SObj} {args:List SV} {K:Out→List SObj→Prop}
 (hJ:FJ B J) (yg:YG P l B N J vw) (hi:i<N) (hh:∀n,∃args' new,vw i n args' new∧Hand n (.mark i :: T) (.mark i :: T') args args' new)
 (hk:∀b:Bool,K (.ret (.raw (.bool b))) (.mark (if b then i+1 else N+1+i) :: T')): @VYld (topG (yFG hJ) Ds) P l args (.mark i :: T) K:=by
 refine @vyld P (topG (yFG hJ) Ds) l B N J vw i T T' args K (fun {E C} hg=> ?_) hJ yg hi hh hk
 obtain ⟨ht,⟨S,hc⟩,hnd,hok⟩:=hg
 refine ⟨S,hc,fun C' H' S' hc' hr=>⟨⟨j1s hr ht.tab fun b hb=>(yFG hJ).nt hc hb,ht.old⟩,⟨S',hc'⟩,hnd,fun D hD=> ?_⟩⟩
 have m:=hok D hD
 have hlt:D<C.w.heap.size:=(Array.getElem?_eq_some_iff.1 m.at_).1
 have hS:¬S D:=fun hs=>absurd ((yFG hJ).lo hc hs m.far) (Nat.not_lt.2 m.sz)
 refine ⟨m.sz,fun hi=> ?_,fun ho=>m.own (hr.own _ ho),(hr.fr.frame _ hlt fun hq=>hq.elim hS m.own).trans m.at_⟩
 exact (hr.fr.imm _ hi).elim m.imm fun ⟨y,_⟩=>y.elim (fun y=>absurd hlt (Nat.not_lt.2 y)) fun y=>y.elim hS m.own

def Iter (P:Program) (f:FuncId) (fi ca:List SV) (N:Nat) (vw:Nat→Nat→List SV→List SObj→Prop):Prop:=
 enters P f=true∧∀ (l B:Nat) (J:Nat→(Nat→Prop)→World→(Nat→Prop)→Prop) (hJ:FJ B J),YG P l B N J vw→
  @VCallG (fgG (yFG hJ)) P f (fi++ [.raw (.func (.yield l) #[] #[])]++ca) [.mark 0] fun o H'=>∃s m,o= .ret s∧H'[0]?=some (.mark m)∧N≤m
def IterI (inf:Prop) (P:Program) (f:FuncId) (fi ca:List SV) (N:Nat) (vw:Nat→Nat→List SV→List SObj→Prop):Prop:=
 enters P f=true∧∀ (l B:Nat) (J:Nat→(Nat→Prop)→World→(Nat→Prop)→Prop) (hJ:FJ B J),YG P l B N J vw→(inf→∀S w I,¬J N S w I)→
  @VCallG (fgG (yFG hJ)) P f (fi++ [.raw (.func (.yield l) #[] #[])]++ca) [.mark 0] fun o H'=>∃s m,o= .ret s∧H'[0]?=some (.mark m)∧N≤m
theorem Iter.toI {inf:Prop} {f:FuncId} {fi ca:List SV} {N:Nat} {vw:Nat→Nat→List SV→List SObj→Prop} (h:Iter P f fi ca N vw):IterI inf P f fi ca N vw:=⟨h.1,fun l B J hJ yg _=>h.2 l B J hJ yg⟩
end Go.Sx
