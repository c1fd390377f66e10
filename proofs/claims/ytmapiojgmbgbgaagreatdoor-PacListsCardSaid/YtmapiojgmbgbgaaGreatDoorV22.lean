/- A part of the proof: a symbolic executor over abstract values, and its soundness. -/
import Derived.Test.YtmapiojgmbgbgaaGreatDoorV21
set_option linter.all false
namespace Go.Sx
open Go
variable {P:Program} {AQ:Ex→List SV→List SObj→Prop} {k0:Nat} {k:List IT} {t:List SV} {H:List SObj}

theorem q3L[Ghost](d h:Nat){T:TypeId}{ty:Ty}{x:ty.den}{td:List IT}(hp:plainT td=true)(hok:ty.ok x)(hH:H[h]?=some (.cells T (ty.cells x)))(hd:t[d]?=some (.ptr h 0))(hs:SoundI P AQ ⟨k0,td,t.set d (.iptr ty x 0),H.set h .dead⟩)(hkn:ty.known=true:=by rfl):
 SoundI P AQ ⟨k0,td,t,H⟩:=q0d (fun td' hr E r n C a h0 hden=>by
 have h1:=q0e hs hr;obtain ⟨b,vs,hb,hcell,hvs⟩:=hden.wd.obj h _ hH;have hown:OwnB C H b:=⟨h,_,hH,rfl,hb⟩;obtain ⟨hnI,hlt⟩:=hden.wd.own b hown;have hoff:∀b',OwnB C (H.set h .dead) b'→OwnB C H b'∧b'≠b:=by
  rintro b' ⟨i,o,ho,hl,hb'⟩;by_cases e:h=i
  · subst e;rw [Ar (Aa.1 hH).1] at ho;cases ho;simp [SObj.live] at hl
  rw [Aq e] at ho;refine ⟨⟨i,o,ho,hl,hb'⟩,fun e'=> ?_⟩;subst e';exact e (hden.wd.inj h i _ o b' hH ho rfl hl hb hb')
 let C':Cx:={C with I:=fun b'=>C.I b'∨b'=b}
 have he:Evo C C':=⟨Ae _,fun _ _=>rfl,fun b' hb'=>⟨.inl hb',rfl⟩,fun _ _ hm=>hm⟩;have hw:Wd C' (H.set h .dead):=by
  refine ⟨by simp [C',hden.wd.n],fun i o ho=> ?_,fun b' hb'=> ?_,fun i i' o o' b' h1 h2 h3 h4 h5 h6=> ?_,fun b' hb'=> ?_⟩
  · by_cases e:h=i
    · subst e;rw [Ar (Aa.1 hH).1] at ho;cases ho;trivial
    rw [Aq e] at ho;exact q0C he.I i rfl (fun _ _=>rfl) (q0f he) (hden.wd.obj i o ho)
  · obtain ⟨g1,g2⟩:=hoff b' hb';have:=hden.wd.own b' g1;exact ⟨fun hi=>hi.elim this.1 g2,this.2⟩
  · have key:∀ {i:Nat} {o:SObj},(H.set h .dead)[i]?=some o→o.live=true→H[i]?=some o:=fun {i o} ho hl=>by
     by_cases e:h=i
     · subst e;rw [Ar (Aa.1 hH).1] at ho;cases ho;simp [SObj.live] at hl
     rwa [Aq e] at ho
    exact hden.wd.inj i i' o o' b' (key h1 h3) (key h2 h4) h3 h4 h5 h6
  exact hb'.elim (hden.wd.imm b') fun e=>e▸hlt
 have hmk:∀n,H[0]?=some (.mark n)→(H.set h .dead)[0]?=some (.mark n):=fun n hn=>q3P hH rfl hn;have hx:Ext E.toEn C' (H.set h .dead):=by
  refine ⟨hden.ext.evo.trans he,hden.ext.size,hden.ext.os,hden.ext.tape,hden.ext.output,hden.ext.frame,fun b' hb'=> ?_,fun b' hb'=>hden.ext.ownNew b' (hoff b' hb').1,fun n h0 hn=>hmk n (hden.ext.keep0 n h0 hn)⟩;rcases hb' with hb'|rfl
  · exact hden.ext.immNew b' hb'
  exact .inr ⟨hden.ext.ownNew b' hown,q4v (C:=C) hden.wd hown⟩
 have hg:Ghost.inv E C' (H.set h .dead):=Ghost.same (C:=C) (C':=C') hden.wd rfl (fun b' hb'=>.inl hb') (fun b' (hb':C.I b'∨b'=b)=>hb'.elim .inl fun e=>.inr (by subst e;exact hown)) (fun b' hb'=>(hoff b' hb').1) (fun n _ hn=>hmk n hn) hden.ext.evo.n hden.defs.2
 refine h1 E r n C' a h0 ⟨hw,hx,⟨hden.defs.1,hg⟩,?_⟩;have ht:=q0f he hden.tmps;obtain ⟨v,hv,hdv⟩:=q1B ht hd;rw [SV.den] at hdv;obtain ⟨_,b',hb',rfl⟩:=hdv;have e:b'=b:=by have:C.ρ h=some b':=hb';rw [hb] at this;exact (Option.some.inj this).symm
 subst e;have hi:(SV.iptr ty x 0).den C' (.pointer (some ⟨b',0,none⟩)):=by
  rw [SV.den];exact ⟨b',0,vs,rfl,.inr rfl,ty.cells_rel _ _ hkn hok (q0f he hvs),fun j u hj=>by rw [Ac];show C.w.cell? _=_;rw [q0g hcell];exact hj⟩
 have h9:=q2p (i:=d) ht hi;have e9:a.tmps.toList.set d (.pointer (some ⟨b',0,none⟩))=a.tmps.toList:=by
  apply Bc;intro j;by_cases ej:d=j
  · subst ej;rw [Ar (Aa.1 hv).1,hv]
  rw [Aq ej]
 rwa [e9] at h9) hp
end Go.Sx
namespace Go.Sx
open Go

variable {P:Program} {AQ:Ex→List SV→List SObj→Prop} {k0:Nat} {k:List IT} {t:List SV} {H:List SObj}

end Go.Sx
namespace Go.Proofs.YtmapiojgmbgbgaaGreatDoor
open Go Go.Sx Go.Proofs
set_option maxRecDepth 100000
set_option maxHeartbeats 4000000
abbrev PreT:Ty:=.prod I64 (.slice .u8)
abbrev Pre:=PreT.den
def mIn(lo hi v:Int):Bool:=decide (lo≤v) && decide (v≤hi)
def vTime(t:Int):Bool:=mIn 0 1099511627776 t
def ErrP{α:Type}(p:PR α):Prop:=∀r e,p r= .error e→e≠0
theorem q5I{α:Type}{tag:UInt8}{dec:List UInt8→Option α}:ErrP (rdP tag dec):=fun _ _ h=>q6b h
theorem z2j{α:Type}{tag:UInt8}{p:PR α}(hp:ErrP p):ErrP (inP tag p):=fun r e h=>by
 rcases q3G (tag:=tag) (p:=p) (r:=r) with ⟨h1,e'⟩ | ⟨_,e1,h2,e'⟩ | ⟨_,_,_,_,_,e'⟩ | ⟨_,_,_,_,_,e'⟩ <;>rw [e'] at h<;>cases h
 · exact h1
 · exact hp _ _ h2
 decide
theorem q3K{α:Type}{n:Nat}{p:PR α}(hp:ErrP p):ErrP (needP n p):=fun r e h=>by
 cases hb:nextB n r with
 |false=>
  rw [q4C hb] at h;split at h<;>cases h<;>decide
 |true=>rw [q5b hb] at h;exact z2j hp r e h
theorem q2W{α β:Type}{p:PR α}{f:α→PR β}(hp:ErrP p)(hf:∀v,ErrP (f v)):ErrP (bindP p f):=fun r e h=>by
 unfold bindP at h;cases h1:p r with
 |error e1=>rw [h1] at h;cases h;exact hp r _ h1
 |ok y=>
  obtain ⟨u,k⟩:=y;rw [h1] at h;simp only at h;cases h2:f u (r.drop k) with
  |error e2=>rw [h2] at h;cases h;exact hf u _ _ h2
  |ok z=>obtain ⟨w,l⟩:=z;rw [h2] at h;cases h
theorem z2w{α:Type}{v:α}:ErrP (retP v):=fun _ _ h=>by cases h
theorem z7y:ErrP keyP:=z2j (q2W (q3K q5I) fun _=>q2W (q3K q5I) fun _=>q2W (q3K q5I) fun _=>z2w)
def EffR(P:Program){α:Type}(f:FuncId)(args:List SV)(b:List UInt8)(n:Nat)(res:α→SV)(z:SV):Except Nat (α×Nat)→Prop
 |.ok (v,k)=>PE P f args [rdr b n] (.ret (.tup [res v,rI 0])) [rdr b (n+k)]
 |.error e=>PE P f args [rdr b n] (.ret (.tup [z,rI e])) [rdr b n]
theorem q7g{P:Program}{α:Type}{f:FuncId}{args:List SV}{b:List UInt8}{n:Nat}{res:α→SV}{z:SV}{x:Except Nat (α×Nat)}{v:α}{k:Nat}(h:EffR P f args b n res z x)(hx:x= .ok (v,k)):PE P f args [rdr b n] (.ret (.tup [res v,rI 0])) [rdr b (n+k)]:=by rw [hx] at h;exact h
theorem q6U{P:Program}{α:Type}{f:FuncId}{args:List SV}{b:List UInt8}{n:Nat}{res:α→SV}{z:SV}{x:Except Nat (α×Nat)}{e:Nat}(h:EffR P f args b n res z x)(hx:x= .error e):PE P f args [rdr b n] (.ret (.tup [z,rI e])) [rdr b n]:=by rw [hx] at h;exact h
abbrev zKey:SV:=.agg [rI 0,rI 0,.isl .u8 []]
def FR(i:Nat)(b:List UInt8)(n:Nat):Except Nat (List UInt8×Nat)→Prop
 |.ok (l,k)=>PE Tryz.prog 180 [.ptr 0 0,rI i,.fn 163 [] []] [rdr b n] (.ret (.ptr 2 0)) [rdr b (n+k),.dead,rdr l 0]
 |.error e=>PE Tryz.prog 180 [.ptr 0 0,rI i,.fn 163 [] []] [rdr b n] (.pan (errV e)) [.dead]
theorem j2Z(i:Nat)(hi:i≤30)(b:List UInt8)(n:Nat)(hn:n≤b.length)(hb:b.length≤1099511627776):FR i b n (needP i (rdP 48 decOct) (b.drop n)):=by
 cases h:nextB i (b.drop n) with
 |false=>
  rw [q4C h,Ak];have hs:=q5M i hi b n hn h;have hl:=q2G b n hn;generalize b.length-n=q at*;refine q0b (by simp) ?_
  refine rQ fi180 ?_;refine eQ [0] (hs) ?_;refine eQ [0] (hl) ?_;by_cases hq:q=0
  · simp [hq]
  simp [hq]
 |true=>
  rw [q5b h];by_cases h1:takeE (tagB i) (b.drop n)=0
  · rw [z4I h1];have hs:=q4l i hi b n hn hb h h1;have hc:=q1r (n:=n) hb;generalize takeC (b.drop n)=c at*;generalize takeN (b.drop n)=N at*;by_cases h2:takeE 48 c=0
    · have hx:rdP 48 decOct c= .ok (takeC c,takeN c):=by unfold rdP;rw [if_pos h2];rfl
      rw [hx];have hr:=q5m c 0 (Al _) hc (by rw [Au];exact h2)
      rw [Au,Ac] at hr;have hm:=q6h h2;generalize takeC c=l at*;generalize takeN c=m at*;have hl:=q2G c m hm;simp only [closeP];by_cases hml:m<c.length
      · rw [if_pos hml];refine q0b (by simp) ?_
        refine rQ fi180 ?_;refine eQ [0] (hs) ?_;refine eQ [1] (hr) ?_;refine eQ [2] (q6T l 0) ?_;refine eQ [1] (hl) ?_;exact ⟨fun _=>rfl,fun q=>absurd (by omega) q⟩
      rw [if_neg hml];refine q0b (by simp) ?_
      refine rQ fi180 ?_;refine eQ [0] (hs) ?_;refine eQ [1] (hr) ?_;refine eQ [2] (q6T l 0) ?_;refine eQ [1] (hl) ?_;exact ⟨fun q=>absurd q (by omega),fun _=>trivial⟩
    have hx:rdP 48 decOct c= .error (takeE 48 c):=by unfold rdP;rw [if_neg h2]
    rw [hx];have hr:=q9F c 0 (Al _) hc (by rw [Au];exact h2)
    rw [Au] at hr;generalize takeE 48 c=e at*;refine q0b (by simp) ?_
    refine rQ fi180 ?_;refine eQ [0] (hs) ?_;refine eQ [1] (hr) ?_;refine effP [] (q5V e h2) ?_;trivial
  rw [z4N h1];have hs:=q7d i hi b n hn hb h h1;generalize takeE (tagB i) (b.drop n)=e at*;refine q0b (by simp) ?_
  refine rQ fi180 ?_;refine eQ [0] (hs) ?_;exact ⟨fun _=>trivial,fun q=>absurd (by omega) h1⟩
theorem z5E(b:List UInt8)(n:Nat):PE Tryz.prog 177 [.ptr 0 0] [rdr b n] (.ret (.ptr 1 0)) [rdr b n,rdr b n]:=by
 refine q0b (by simp) ?_
 refine rQ fi177 ?_;trivial
theorem q5p(b:List UInt8)(n m e:Nat)(T2 T3 T4 T5:TypeId)(x y:SV)(z:Value)(R:List SObj)(K:List SObj→Prop)
 (h:K ([rdr b n,.cells T2 [.ptr 0 0],.cells T3 [.raw (.slice none 0 0),rS ⟨#[]⟩],.cells T4 [rI e],rdr b n,.cells T5 [.ptr 4 0]]++R)):
 DCall Tryz.prog 178 [.ptr 5 0,.ptr 1 0,.ptr 2 0,.ptr 3 0] (some (errV e)) ([rdr b m,.cells T2 [.ptr 0 0],.cells T3 [x,y],.cells T4 [.raw z],rdr b n,.cells T5 [.ptr 4 0]]++R) K:=by
 refine j1j fi178 ?_;refine uQ 13 _ ?_;with_reducible refine sxaE ?_
 refine q1T [1,4,5] mixed ?_;refine aQ ?_;exact h
abbrev zPrin:SV:=.agg [.isl .str [],rS ⟨#[]⟩]
def rO{α:Type}(res:α→SV)(z:SV):Except Nat (α×Nat)→Out
 |.ok (v,_)=>.ret (.tup [res v,rI 0])
 |.error e=>.ret (.tup [z,rI e])
def rH{α:Type}(b:List UInt8)(n:Nat):Except Nat (α×Nat)→List SObj
 |.ok (_,k)=>[rdr b (n+k)]
 |.error _=>[rdr b n]
attribute [go_sem] rO rH
theorem j2J{P:Program}{α:Type}{f:FuncId}{args:List SV}{b:List UInt8}{n:Nat}{res:α→SV}{z:SV}{x:Except Nat (α×Nat)}(h:VC P f args [rdr b n] (SealO (rO res z x) (rH b n x))):EffR P f args b n res z x:=by
 cases x with
 |error e=>exact q0b (by simp [rH]) h
 |ok y=>exact q0b (by simp [rH]) h
theorem j2A(b:List UInt8)(n:Nat)(hn:n≤b.length)(hb:b.length≤1099511627776)(h:takeE 48 (b.drop n)≠0):
 EffR Tryz.prog 128 [.ptr 0 0] b n (fun p:Prin=>.agg (PrinT.cells p)) zPrin (nameP (b.drop n)):=by
 have hs:=q9F b n hn hb h;have he:nameP (b.drop n)= .error (takeE 48 (b.drop n)):=by unfold nameP;rw [z4N h];rfl
 rw [he];clear he;generalize takeE 48 (b.drop n)=e at*;refine q0b (by simp) ?_
 refine defE mixed fi128 ?_;refine eQ [0] (z5E b n) ?_;refine gQ ?_;refine eQ [0] (hs) ?_;refine effP [] (q5V e h) ?_;refine ⟨by simp,q5p b n n e _ _ _ _ _ _ _ [] _ ?_⟩
 with_reducible refine sxE ?_;trivial
theorem z9y{β:Type}{l r:List UInt8}{f:List ByteArray→PR β}{e:Nat}(h:listP strP l.length l= .error e):bindP (strsP l) f r= .error e:=by unfold bindP strsP atP;rw [h]
theorem z9u{β:Type}{l r:List UInt8}{f:List ByteArray→PR β}{xs:List ByteArray}{m:Nat}(h:listP strP l.length l= .ok (xs,m)):bindP (strsP l) f r=shiftP 0 (f xs r):=by
 unfold bindP strsP atP;rw [h];simp only [Au];cases f xs r with
 |error e=>rfl
 |ok y=>rfl
theorem z9R{α:Type}{j k:Nat}{x:Except Nat (α×Nat)}:shiftP j (shiftP k x)=shiftP (j+k) x:=by
 cases x with
 |error e=>rfl
 |ok y=>obtain ⟨u,m⟩:=y;simp only [shiftP,Nat.add_assoc]
theorem j0U(H:List SObj)(K:List SObj→Prop)(h:∀G,K (H++G)):DCall Tryz.prog 178 [.ptr 5 0,.ptr 1 0,.ptr 2 0,.ptr 3 0] none H K:=by
 refine recE mixed fi178 ?_;simpa using h []
theorem j2n(b:List UInt8)(n:Nat)(hn:n≤b.length)(hb:b.length≤1099511627776)(h:takeE 48 (b.drop n)=0):
 EffR Tryz.prog 128 [.ptr 0 0] b n (fun p:Prin=>.agg (PrinT.cells p)) zPrin (nameP (b.drop n)):=by
 have hs:=q5m b n hn hb h;have hc:=q1r (n:=n) hb;have he:nameP (b.drop n)=chkP vPrin (closeP (takeC (b.drop n)).length (takeN (b.drop n)) (nameIn (takeC (b.drop n)))):=by unfold nameP;rw [z4I h]
 generalize nameP (b.drop n)=Y at*;generalize takeC (b.drop n)=c at*;generalize takeN (b.drop n)=N at*;refine j2J ?_;unfold nameIn at he;have f0:=j2Z 0 (by omega) c 0 (Al _) hc
 rw [Au] at f0;refine defE mixed fi128 ?_;refine eQ [0] (z5E b n) ?_;refine gQ ?_;refine eQ [0] (hs) ?_;refine eQ [6] (q6T c 0) ?_;cases h1:needP 0 (rdP 48 decOct) c with
 |error e=>
  rw [q3S h1] at he;subst he;rw [h1] at f0;have f0':PE Tryz.prog 180 [.ptr 0 0,rI (0:Nat),.fn 163 [] []] [rdr c 0] (.pan (errV e)) [.dead]:=f0;simp only [closeP,chkP];refine effP [6] (f0') ?_;refine ⟨by simp,q5p b n _ e _ _ _ _ _ _ _ [_] _ ?_⟩
  with_reducible refine sxE ?_;trivial
 |ok x=>
  obtain ⟨l,k⟩:=x;rw [z3l h1] at he;have hk:=q0F _ _ _ h1;rw [h1] at f0;have f0':PE Tryz.prog 180 [.ptr 0 0,rI (0:Nat),.fn 163 [] []] [rdr c 0] (.ret (.ptr 2 0)) [rdr c (0+k),.dead,rdr l 0]:=f0;rw [Ac] at f0';refine eQ [6] (f0') ?_;have hlb:l.length≤1099511627776:=(q3e (z6e (Q:=fun v:List UInt8=>v.length≤1099511627776) fun c v hc hd=>by unfold decOct at hd;cases hd;exact hc)) c l k hc h1
  generalize hX:listP strP l.length l=X;refine q4c 2 0 .str rfl rfl rfl ?_;with_reducible refine sxE ?_
  refine q0y (ι:=Nat×List ByteArray×List SObj) (fun s=>[]) (fun s=>[rdr b (n+N),.cells 94 [.ptr 0 0],.cells 24 [.bld (s.2.2.length+9) .str s.2.1.length,rS ⟨#[]⟩],.cells 36 [rI 0],rdr b n,.cells 94 [.ptr 4 0],rdr c k,.dead,rdr l s.1]++s.2.2++ [.row .str s.2.1]) (fun s=>l.length-s.1) (fun s=>s.2.1.length≤s.1∧s.1≤l.length∧(∀x∈s.2.1,x.size≤1099511627776)∧X=tailP s.2.1 s.1 (listP strP (l.length-s.2.1.length) (l.drop s.1))) (0,[],[]) ⟨Ae _,Al _,by simp,?_⟩ rfl ?_ ?_
  · rw [Au,Bq,Nat.sub_zero,q9l];exact hX.symm
  · with_reducible refine sxE ?_;trivial
  rintro ⟨m,xs,G⟩ ⟨i1,i2,i4,i3⟩;dsimp only at i1 i2 i3 i4;have hleft:=q2G l m i2;refine aQ ?_;refine q0K [8] hleft rfl (by decide) ⟨rfl,rfl,trivial⟩ rfl rfl ?_
  simp only [afterO,Out.ren,SV.ren,mgA,sig,SObj.ren,SV.renL,Ay,As,List.append_assoc,Bj,Bk,List.set,List.map,Ai];refine uQ 5 _ ?_;with_reducible refine sxaE ?_
  refine ⟨fun hp0=> ?_,fun hp0=> ?_⟩
  · have hml:m<l.length:=by omega
    refine j2q [2] mixed ?_;refine aQ ?_;cases hp:strP (l.drop m) with
    |error e=>
     have hr:=z5V l m i2 hlb hp;have hXe:=i3.trans (q6E hml (by omega) hp)
     rw [z9y (hX.trans hXe)] at he;subst he;simp only [shiftP,closeP,chkP];refine q0G [8] hr rfl (by decide) ⟨rfl,rfl,trivial⟩ rfl rfl ?_ ?_
     · simp (maxSteps:=3000000) only [mgA,sig,q1o,q1w,List.append_assoc,getA,getA0,setA,setA0,Af,Nat.add_assoc,go_sem,↓zA,↓reduceIte,↓reduceDIte] <;>try simp only [zB]
     refine rnE ?_;refine aQ ?_;refine q0G [] (q5T (.string ⟨#[]⟩) e (q6b hp)) rfl (by decide) trivial rfl rfl ?_ ?_
     · simp (maxSteps:=3000000) only [mgA,sig,q1o,q1w,List.append_assoc,getA,getA0,setA,setA0,Af,Nat.add_assoc,go_sem,↓zA,↓reduceIte,↓reduceDIte] <;>try simp only [zB]
     refine rnE ?_;refine j3y ?_;with_reducible refine sxaE ?_
     refine ⟨by simp,?_⟩
     have hpan:=fun K hK=>q5p b n (n+N) e 94 24 36 94 (.bld (G.length+9) .str xs.length) (rS ⟨#[]⟩) (.int .i64 0) ([rdr c k,.dead,rdr l m]++G++ [.row .str xs]) K hK;simp only [Ay,As,List.append_assoc] at hpan;refine hpan _ ?_;with_reducible refine sxaE ?_;trivial
    |ok y=>
     obtain ⟨v,q⟩:=y;have hr:=z5h l m i2 hlb hp;have hfit:=j0t hp;have hq2:=z5a (q5U hp).1;have hq:2≤q:=by rw [(q5U hp).2.2];exact hq2
     have hvs:=z5t (l.drop m) v q (by rw [Ak];omega) hp
     rw [Ak] at hfit;have hXs:=i3.trans (q5t hml (by omega) hp)
     refine q0G [8] hr rfl (by decide) ⟨rfl,rfl,trivial⟩ rfl rfl ?_ ?_
     · simp (maxSteps:=3000000) only [mgA,sig,q1o,q1w,List.append_assoc,getA,getA0,setA,setA0,Af,Nat.add_assoc,go_sem,↓zA,↓reduceIte,↓reduceDIte] <;>try simp only [zB]
     refine rnE ?_;refine aQ ?_;refine q0k (q6K _) ?_;refine aQ ?_;refine ⟨by show v.size≤_;omega,⟨by omega,by omega⟩,j3X ?_⟩
     refine aQ ?_;refine ⟨(m+q,xs++ [v],G++ [.dead,.row .str [v]]),⟨by simp;omega,by dsimp only;omega,fun x hx=> ?_,?_⟩,by dsimp only;omega,?_,?_⟩
     · rcases BX.1 hx with hx|hx
       · exact i4 x hx
       rw [BJ] at hx;subst hx;exact hvs
     · dsimp only;rw [hXs,Af,Bo,Nat.sub_sub]
     · simp
     with_reducible refine sxaE ?_;trivial
  have hXe:=i3.trans (q7w (by omega))
  rw [z9u (hX.trans hXe),z9R,AK] at he;clear hX hXe i3;refine z4e (ty:=.str) (xs:=xs) [rdr b (n+N),.cells 94 [.ptr 0 0],.cells 24 [.bld (G.length+9) .str xs.length,rS ⟨#[]⟩],.cells 36 [rI 0],rdr b n,.cells 94 [.ptr 4 0],rdr c k,.dead,rdr l m] [rdr b (n+N),.cells 94 [.ptr 0 0],.cells 24 [.bld 9 .str xs.length,rS ⟨#[]⟩],.cells 36 [rI 0],rdr b n,.cells 94 [.ptr 4 0],rdr c k,.dead,rdr l m] G rfl (by simp) (by simp) ?_ (by rfl) ?_ ?_ ?_
  · simp [SObj.ren,SV.ren,SV.renL,shift,Bm]
  · rfl
  · with_reducible refine sxE ?_;trivial
  with_reducible refine sxE ?_
  have hxs:xs.length≤1099511627776:=by omega
  refine q1i 9 rfl rfl (by omega) ?_ ?_ ?_
  · with_reducible refine sxE ?_
    exact Ae _
  · with_reducible refine sxE ?_;trivial
  with_reducible refine sxE ?_
  rw [Ah (Ae _)];have hf1:=j3u 1 (by omega) c k hk hc
  cases h2:needP 1 strP (c.drop k) with
  |error e=>
   rw [q3S h2] at he;subst he;have hf1':=q9k hf1 h2;simp only [shiftP,closeP,chkP];refine gQ ?_;refine effP [6] (hf1') ?_;refine ⟨by simp,?_⟩
   have hpan:=fun K hK=>q5p b n (n+N) e 94 24 36 94 (.isl .str xs) (rS ⟨#[]⟩) (.int .i64 0) [.dead,.dead,rdr l m,.dead] K hK;simp only [Ay,As,List.append_assoc] at hpan;refine hpan _ ?_;with_reducible refine sxE ?_;trivial
  |ok y=>
   obtain ⟨t,q⟩:=y;rw [q4M h2] at he;have hf1':=q9f hf1 h2;have hkq:=q2B q0F hk h2;have hts:=q3e z5t (c.drop k) t q (by rw [Ak];omega) h2
   have hlq:=q2G c (k+q) hkq;simp only [shiftP,retP,closeP] at he;refine gQ ?_;refine eQ [6] (hf1') ?_;refine eQ [6] (hlq) ?_;refine ⟨fun hle=>q0a (q4Y (xs,t) ⟨⟨by show xs.length≤_;omega,fun x hx=>by have:=i4 x hx;show x.size≤_;omega⟩,by show t.size≤_;omega⟩) ?_,fun hgt=>⟨by simp,?_⟩⟩
   · rw [if_neg (by omega)] at he
     simp only [chkP] at he;cases hv:vPrin (xs,t) with
     |true=>
      rw [if_pos hv] at he;subst he;refine gQ ?_;refine j0U _ _ fun G=> ?_;with_reducible refine sxE ?_;trivial
     |false=>
      rw [if_neg (by rw [hv];decide)] at he
      subst he;refine gQ ?_;refine ⟨by simp,?_⟩
      have hpan:=fun K hK=>q5p b n (n+N) 6 94 24 36 94 (.isl .str xs) (rS t) (.int .i64 0) [rdr c (k+q),.dead,rdr l m,.dead] K hK;simp only [Ay,As,List.append_assoc] at hpan;refine hpan _ ?_;with_reducible refine sxE ?_;trivial
   rw [if_pos (by omega)] at he
   simp only [chkP] at he;subst he;have hpan:=fun K hK=>q5p b n (n+N) 6 94 24 36 94 (.isl .str xs) (rS t) (.int .i64 0) [rdr c (k+q),.dead,rdr l m,.dead] K hK;simp only [Ay,As,List.append_assoc] at hpan;refine hpan _ ?_;with_reducible refine sxE ?_;trivial
theorem z7Y{α:Type}{p:PR α}{Q Q':α→Prop}(h:OkP p Q)(hq:∀v,Q v→Q' v):OkP p Q':=fun r v m hr hx=>hq v (h r v m hr hx)
theorem j0R{p:PR Prin}{Q:Prin→Prop}(hq:∀v,vPrin v=true→Q v):OkP (fun r=>chkP vPrin (p r)) Q:=fun r v m _ hx=>by
 have hx:chkP vPrin (p r)= .ok (v,m):=hx;cases hp:p r with
 |error e=>rw [hp] at hx;cases hx
 |ok y=>
  obtain ⟨u,k⟩:=y;rw [hp] at hx;simp only [chkP] at hx;split at hx
  · cases hx;exact hq _ (by assumption)
  cases hx
theorem j2a{p:Prin}(h:vPrin p=true):PrinT.ok p:=by
 obtain ⟨h1,h2,h3⟩:=q8A h;exact ⟨⟨by omega,fun x hx=>by have:=h2 x hx;show x.size≤_;omega⟩,by show p.2.size≤_;omega⟩
theorem q8W:OkP nameP PrinT.ok:=j0R fun _ h=>j2a h
theorem j2G:OkP octP (Ty.slice .u8).ok:=z6e fun c v hc hd=>by
 unfold decOct at hd;cases hd;exact ⟨by show c.length≤_;omega,fun _ _=>trivial⟩
theorem j2T{t:Ty}{p:PR t.den}(n:Nat)(hn:n≤1000)(h:OkP p t.ok):OkP (inP 48 (listP p n)) (Ty.slice t).ok:=q8s (z7Y (z2E h n) fun v hv=>⟨by have:=hv.1;omega,hv.2⟩)
theorem z2K{t:Ty}:(Ty.slice t).ok ([]:List t.den):=⟨by simp,by simp⟩
theorem z6v:OkP keyP KeyT.ok:=q8s (q1P (Q1:=fun _=>True) q4Z fun _ _=>q1P (Q1:=fun _=>True) q4Z fun _ _=>q1P (q3e j2G) fun _ hc=>z1Y ⟨trivial,trivial,hc⟩)
theorem q9Z{α:Type}{p:PR α}(hp:ErrP p):∀n,ErrP (listP p n)
 |0,r,e,h=>by
  simp only [listP] at h;split at h<;>cases h
  decide
 |n+1,r,e,h=>by
  simp only [listP] at h;split at h
  · cases h
  cases h1:p r with
  |error e1=>rw [h1] at h;cases h;exact hp r _ h1
  |ok y=>
   obtain ⟨u,k⟩:=y;rw [h1] at h;simp only at h;cases h2:listP p n (r.drop k) with
   |error e2=>rw [h2] at h;cases h;exact q9Z hp n _ _ h2
   |ok z=>obtain ⟨w,l⟩:=z;rw [h2] at h;cases h
theorem z3k:ErrP nameP:=fun r e h=>by
 have hin:ErrP (inP 48 nameIn):=z2j (q2W (q3K q5I) fun l=>q2W (fun r' e' h'=>by
  unfold strsP atP at h';cases h1:listP strP l.length l with
  |error e1=>rw [h1] at h';cases h';exact q9Z q5I _ _ _ h1
  |ok y=>obtain ⟨u,k⟩:=y;rw [h1] at h';cases h') fun _=>q2W (q3K q5I) fun _=>z2w)
 unfold nameP at h;cases h1:inP 48 nameIn r with
 |error e1=>rw [h1] at h;cases h;exact hin r _ h1
 |ok y=>
  obtain ⟨u,k⟩:=y;rw [h1] at h;simp only [chkP] at h;split at h<;>cases h
  decide
theorem q5n:FitsP nameP:=fun r v m h=>by
 unfold nameP at h;cases h1:inP 48 nameIn r with
 |error e1=>rw [h1] at h;cases h
 |ok y=>
  obtain ⟨u,k⟩:=y;rw [h1] at h;simp only [chkP] at h;split at h
  · cases h;exact q2o r _ _ h1
  cases h
theorem z5T(b:List UInt8)(n:Nat)(hn:n≤b.length)(hb:b.length≤1099511627776):
 EffR Tryz.prog 128 [.ptr 0 0] b n (fun p:Prin=>.agg (PrinT.cells p)) zPrin (nameP (b.drop n)):=by
 by_cases h:takeE 48 (b.drop n)=0
 · exact j2n b n hn hb h
 exact j2A b n hn hb h
end Go.Proofs.YtmapiojgmbgbgaaGreatDoor
namespace Go.Sx
open Go
variable [Ghost] {P:Program} {AQ:Ex→List SV→List SObj→Prop} {k0:Nat} {k:List IT} {t:List SV} {H:List SObj}

theorem z4y{a b c:SV}(h:leM1 a b)(k:leM1 b c):leM1 a c:=by
 cases c<;>first|trivial| (simp only [leM1] at k;subst k;exact h)
theorem z7m(s:SV):leM1 s s:=(q6k [s]).1
theorem q9R:∀ {a b c:List SV},leM a b→leM b c→leM a c
 | [],[],[],_,_=>trivial
 |_ :: _,_ :: _,_ :: _,h,k=>⟨z4y h.1 k.1,q9R h.2 k.2⟩
 | [],[],_ :: _,_,k=>k.elim
 | [],_ :: _,_,h,_=>h.elim
 |_ :: _,[],_,h,_=>h.elim
 |_ :: _,_ :: _,[],_,k=>k.elim
theorem z6l:∀ (t:List SV) (d:Nat),leM t (t.set d .any)
 | [],_=>trivial
 |_ :: l,0=>⟨trivial,q6k l⟩
 |s :: l,d+1=>⟨z7m s,z6l l d⟩
theorem z3I:∀ (ws:List Nat) (t:List SV),leM t (maskT ws t)
 | [],t=>q6k t
 |d :: ws,t=>q9R (z6l t d) (z3I ws _)
theorem z0A(ws:List Nat){td:List IT}(hp:plainT td=true)(hs:SoundI P AQ ⟨k0,td,maskT ws t,H⟩):SoundI P AQ ⟨k0,td,t,H⟩:=
 q0d (fun _ hr E r n C a h0 hd=>q0e hs hr E r n C a h0 ⟨hd.wd,hd.ext,hd.defs,q2K (q3b (z3I ws t)) hd.tmps⟩) hp

def RowT(ty:Ty)(xs:List ty.den)(v:Value):Out→List SObj→Prop:=fun o H'=>(xs= []∧o= .ret (.tup [.raw (.slice none 0 0),.raw v])∧H'= [])∨(o= .ret (.tup [.bld 0 ty xs.length,.raw v])∧H'= [.row ty xs])
theorem z9U{ty:Ty}{xs:List ty.den}{v:Value}{H':List SObj}(h:xs= []):Weak 0 (RowT ty xs v) (.ret (.tup [.raw (.slice none 0 0),.raw v])) H':=
 ⟨fun h=>h,.tup [.raw (.slice none 0 0),.raw v],.tup [.raw (.slice none 0 0),.raw v],[],⟨⟨rfl,trivial⟩,trivial,rfl,rfl,rfl,rfl,Ae _,fun _ h0=>absurd h0 (Ck 0)⟩,.inl (.inl rfl),.inl ⟨h,rfl,rfl⟩⟩
theorem z9J{ty:Ty}{xs:List ty.den}{v:Value}{H':List SObj}{h n:Nat}(hH:H'[h]?=some (.row ty xs))(hn:n=xs.length):Weak 0 (RowT ty xs v) (.ret (.tup [.bld h ty n,.raw v])) H':=by
 subst hn;exact ⟨fun _=>h,.tup [.bld 0 ty xs.length,.raw v],.tup [.bld 0 ty xs.length,.raw v],[.row ty xs],⟨⟨rfl,trivial⟩,⟨hH,trivial⟩,rfl,rfl,rfl,rfl,Al _,fun _ h0=>absurd h0 (Ck 0)⟩,.inl (.inl rfl),.inr ⟨rfl,rfl⟩⟩
theorem z4Q{f:FuncId}{args:List SV}{ty:Ty}{xs:List ty.den}{v:Value}{d:Option Tmp}{td:List IT}(hp:VC P f args [] (RowT ty xs v))(hb:SV.belL 0 args=true)(hargs:args=SV.renL (sig [] H.length) args)
 (h0:xs= []→SoundI P AQ ⟨k0,td,putT t d (.tup [.raw (.slice none 0 0),.raw v]),H⟩)(h:SoundI P AQ ⟨k0,td,putT t d (.tup [.bld H.length ty xs.length,.raw v]),H++ [.row ty xs]⟩):CallI P AQ f args d ⟨k0,td,t,H⟩:=by
 refine ⟨hp.1,VCall.g ?_⟩;rw [hargs];refine VCall.fr (H0:=[]) [] (by simp) trivial hb rfl hp.2 ?_
 rintro o H' _ (⟨e,rfl,rfl⟩ | ⟨rfl,rfl⟩)
 · simp only [mgA,CE,Ai];exact h0 e
 exact h
theorem VC.arg{f:FuncId}{args args':List SV}{K:Out→List SObj→Prop}(h:VC P f args H K)(hl:SV.leVL args' args):VC P f args' H K:=
 ⟨h.1,fun C vs hw ht hv=>h.2 C vs hw ht (q4K hl hv)⟩
end Go.Sx
namespace Go.Proofs.YtmapiojgmbgbgaaGreatDoor
open Go Go.Sx Go.Proofs
set_option maxRecDepth 100000
set_option maxHeartbeats 4000000
theorem q3J{α β:Type}{p:PR α}{f:α→PR β}{b:List UInt8}{n N:Nat}{X:Except Nat (β×Nat)}{e:Nat}(hX:X=shiftP N (bindP p f (b.drop n)))(h:p (b.drop n)= .error e):X= .error e:=by
 rw [hX,q3S h];rfl
theorem q3B{α β:Type}{p:PR α}{f:α→PR β}{b:List UInt8}{n N:Nat}{X:Except Nat (β×Nat)}{v:α}{k:Nat}(hX:X=shiftP N (bindP p f (b.drop n)))(h:p (b.drop n)= .ok (v,k)):X=shiftP (N+k) (f v (b.drop (n+k))):=by
 rw [hX,q4M h];cases f v (b.drop (n+k)) with
 |error e=>rfl
 |ok y=>obtain ⟨u,m⟩:=y;simp only [shiftP,Nat.add_assoc]
theorem z5M{α:Type}{p:PR α}{b:List UInt8}{n:Nat}:p (b.drop n)=shiftP 0 (p (b.drop n)):=by
 cases p (b.drop n) with
 |error e=>rfl
 |ok y=>obtain ⟨u,m⟩:=y;simp only [shiftP,Ac]
@[go_sem] abbrev mU(o:Int):SV:=.raw (.int .u32 o)
theorem z0K(k:Key):PC Tryz.prog 96 [.agg (KeyT.cells k)] (.isl .u8 (keyS k)):=by
 refine q0u rfl rfl ?_;refine rQ fi96 ?_;refine cQ (z9r _ _ _) ?_;trivial
theorem j1o(b:List UInt8)(n:Nat)(hn:n≤b.length)(hb:b.length≤1099511627776):
 EffZ Tryz.prog 165 [.ptr 0 0] b n (posX b n) (fun v:Key=>.agg (KeyT.cells v)) (keyP (b.drop n)):=by
 have ht:=z6P b n hn hb;refine z1m ?_;generalize keyP (b.drop n)=X at*;cases X with
 |error e=>
  have ht':=z5b ht rfl;refine rQ fi165 ?_;refine effP [0] (ht') ?_;trivial
 |ok x=>
  obtain ⟨v,k⟩:=x;have ht':=z7o ht rfl;refine rQ fi165 ?_;refine eQ [0] (ht') ?_;trivial
theorem z9t(b:List UInt8)(n m e:Nat)(T2 T4 T5 T6:TypeId)(y:Value)(K:List SObj→Prop)
 (h:∀G,K ([rdr b n,.cells T2 [.ptr 0 0],.cells T4 [rI 0,rI 0,.raw (.slice none 0 0)],.cells T5 [rI e],.cells T6 [rI n]]++G)):
 DCall Tryz.prog 210 [.ptr 4 0,.ptr 1 0,.ptr 2 0,.ptr 3 0] (some (errV e)) [rdr b m,.cells T2 [.ptr 0 0],.cells T4 [rI 0,rI 0,.raw (.slice none 0 0)],.cells T5 [.raw y],.cells T6 [rI n]] K:=by
 refine j1j fi210 ?_;refine uQ 16 _ ?_;with_reducible refine sxE ?_
 refine q1T [999999,1,4,5] mixed ?_;refine uQ 600 _ ?_;simp (maxSteps:=3000000) only [List.getElem?_nil,go_sem,↓zA,↓reduceIte,↓reduceDIte] <;>try simp only [zB]
 exact h _
theorem z9W(H:List SObj)(K:List SObj→Prop)(h:∀G,K (H++G)):DCall Tryz.prog 210 [.ptr 4 0,.ptr 1 0,.ptr 2 0,.ptr 3 0] none H K:=by
 refine recE mixed fi210 ?_;simpa using h []
theorem j1i(b:List UInt8)(n:Nat)(hn:n≤b.length)(hb:b.length≤1099511627776):
 EffR Tryz.prog 164 [.ptr 0 0,.fn 165 [] []] b n (fun v:Key=>.agg (KeyT.cells v)) zKey (keyP (b.drop n)):=by
 have hk:=j1o b n hn hb;generalize keyP (b.drop n)=X at*;cases X with
 |error e=>
  have hk':=z5b hk rfl;refine q0b (by simp) ?_
  refine defE mixed fi164 ?_;refine gQ ?_;refine effP [0] (hk') ?_;refine ⟨by simp,z9t b n _ e _ _ _ _ _ _ fun G=> ?_⟩
  with_reducible refine sxE ?_;trivial
 |ok x=>
  obtain ⟨v,k⟩:=x;have hk':=z7o hk rfl;refine q0b (by simp) ?_
  refine defE mixed fi164 ?_;refine gQ ?_;refine eQ [0] (hk') ?_;refine z9W _ _ fun G=> ?_;with_reducible refine sxE ?_;trivial
theorem z3O(b:List UInt8)(n:Nat)(hn:n≤b.length)(hb:b.length≤1099511627776):
 EffR Tryz.prog 111 [.ptr 0 0] b n (fun v:Key=>.agg (KeyT.cells v)) zKey (keyP (b.drop n)):=by
 have hk:=j1i b n hn hb;generalize keyP (b.drop n)=X at*;cases X with
 |error e=>
  have hk':=q6U hk rfl;refine q0b (by simp) ?_
  refine rQ fi111 ?_;refine eQ [0] (hk') ?_;trivial
 |ok x=>
  obtain ⟨v,k⟩:=x;have hk':=q7g hk rfl;refine q0b (by simp) ?_
  refine rQ fi111 ?_;refine eQ [0] (hk') ?_;trivial
set_option synthInstance.maxSize 2000
set_option synthInstance.maxHeartbeats 400000
theorem q9M(l l':List ByteArray)(hl:(Ty.slice Ty.str).ok l):PC Tryz.prog 141 [.isl .str l,.isl .str l'] (rB (decide (l=l'))):=by
 have hlen:=hl.1;have key:=sameN l l' (ByteArray.empty);refine q0w rfl rfl ?_;refine rQ fi141 ?_<;>try with_reducible exact True.intro
 repeat' (first
  | (with_reducible refine And.intro ?_ ?_)
  | (with_reducible intro _))
 all_goals (skip)
 · grind
 refine q0Q (fun i=>[(13,.raw (.int .i64 ((i:Nat):Int)))]) (l.length) (fun j=>(eqAt l l' ByteArray.empty) j=true) (by first|decide|simp) (fun i=>rfl) ?_ fun i hi hall=> ?_
 · (with_reducible refine sxE ?_<;>try exact True.intro)
   all_goals (try rfl)
 have hwr:=wsx i (by omega)
 refine gQ ?_;have bad:i< (l.length)→(eqAt l l' ByteArray.empty) i=false→allN (l.length) (eqAt l l' ByteArray.empty)=false:=fun hlt hv=>q0l hlt hv;have fin:¬i< (l.length)→allN (l.length) (eqAt l l' ByteArray.empty)=true:=fun h=>q0q fun j hj=>hall j (by omega)
 try dsimp only at bad fin hall
 repeat' (first
  | (refine q0a (skip) ?_;refine uQ 600 _ ?_;simp (maxSteps:=3000000) only [go_sem,↓zA,↓reduceIte,↓reduceDIte] <;>try simp only [zB])
  | (refine q0k (skip) ?_;refine uQ 600 _ ?_;simp (maxSteps:=3000000) only [go_sem,↓zA,↓reduceIte,↓reduceDIte] <;>try simp only [zB])
  | (refine q0H (skip) ?_;refine uQ 600 _ ?_;simp (maxSteps:=3000000) only [go_sem,↓zA,↓reduceIte,↓reduceDIte] <;>try simp only [zB])
  | (with_reducible refine And.intro ?_ ?_)
  | (with_reducible intro _))
 all_goals (first| (with_reducible (refine (id ?_:SoundI _ _ _))) | ((try simp only [Ty.dflt] at*);first|omega| (refine ⟨by omega,q0I hall (by grind [eqAt]),⟨_,by first|rfl|exact List.append_assoc _ _ _| (simp only [List.append_assoc,Ay,As];rfl)⟩,?_⟩;simp only [hwr,go_sem,↓zA,↓reduceIte,↓reduceDIte] <;> (first|rfl| (grind [eqAt]))) | (refine ⟨_,rfl⟩) | (refine ⟨_,List.append_assoc _ _ _⟩) | (grind [eqAt])))
theorem z8k(p p':Prin)(hp:PrinT.ok p):PC Tryz.prog 78 [.agg (PrinT.cells p),.agg (PrinT.cells p')] (rB (decide (p=p'))):=by
 obtain ⟨a,r⟩:=p;obtain ⟨a',r'⟩:=p';have hd:decide ((a,r)=(a',r'))=(decide (r=r') && decide (a=a')):=by
  rw [BF];simp only [decide_eq_true_eq,Aj,Prod.mk.injEq];exact ⟨fun h=>⟨h.2,h.1⟩,fun h=>⟨h.2,h.1⟩⟩
 rw [show rB (decide ((a,r)=(a',r')))=rB (decide (r=r') && decide (a=a')) from by rw [hd]]
 clear hd;refine q0w rfl rfl ?_;refine rQ fi78 ?_<;>try with_reducible exact True.intro
 repeat' (first
  | (refine q0a (q9M _ _ hp.1) ?_;refine uQ 600 _ ?_;simp (maxSteps:=3000000) only [go_sem,↓zA,↓reduceIte,↓reduceDIte] <;>try simp only [zB])
  | (refine q0k (q9M _ _ hp.1) ?_;refine uQ 600 _ ?_;simp (maxSteps:=3000000) only [go_sem,↓zA,↓reduceIte,↓reduceDIte] <;>try simp only [zB])
  | (refine q0H (q9M _ _ hp.1) ?_;refine uQ 600 _ ?_;simp (maxSteps:=3000000) only [go_sem,↓zA,↓reduceIte,↓reduceDIte] <;>try simp only [zB])
  | (with_reducible refine And.intro ?_ ?_)
  | (with_reducible intro _))
 all_goals (skip)
 all_goals grind
abbrev PacT:Ty:=.prod PrinT (.prod I64 (.prod I64 (.prod (.slice I64) (.slice PrinT))))
abbrev Pac:=PacT.den
def vNum(v:Int):Bool:=mIn 0 2147483647 v
theorem j0c(v:Int):PC Tryz.prog 65 [rI v] (rB (vNum v)):=by
 refine q0w rfl rfl ?_;refine rQ fi65 ?_
 grind [vNum,mIn]
theorem q6X(v lo hi:Int):PC Tryz.prog 176 [rI v,rI lo,rI hi] (rB (mIn lo hi v)):=by
 refine q0w rfl rfl ?_;refine rQ fi176 ?_
 grind [mIn]
theorem q9X(v:Int):PC Tryz.prog 174 [rI v] (rB (vTime v)):=by
 refine q0w rfl rfl ?_;refine rQ fi174 ?_;refine cQ (q6X _ _ _) ?_;rfl
theorem j3Y(l:List Bool)(hl:l.length≤1125899906842624):PC Tryz.prog 173 [.isl .bool l] (rB (l.all id)):=by
 refine q0w rfl rfl ?_;refine rQ fi173 ?_;refine cQ (q6I l hl) ?_;simp
theorem j0T(v:Int):PC Tryz.prog 175 [rI v] (rB (mIn 0 86400 v)):=by
 refine q0w rfl rfl ?_;refine rQ fi175 ?_;refine cQ (q6X _ _ _) ?_;trivial
def witB(a b s:Int):Bool:=vTime a&& (vTime b&& (mIn 0 86400 s&& mIn (-s) s (a-b)))
theorem j3b(a b s:Int):PC Tryz.prog 120 [rI a,rI b,rI s] (rB (witB a b s)):=by
 have hm:=j3Y [vTime a,vTime b,mIn 0 86400 s] (by simp)
 have hw:witB a b s=(([vTime a,vTime b,mIn 0 86400 s].all id) && mIn (-s) s (a-b)):=by simp [witB,Bool.and_assoc]
 have hr:[vTime a,vTime b,mIn 0 86400 s].all id=true→IntKind.i64.wrap (a-b)=a-b∧IntKind.i64.wrap (-s)= -s:=fun h=>by
  simp only [Bt,Cs,id,BA,Aj,vTime,mIn,decide_eq_true_eq] at h;exact ⟨wrapi (by omega),wrapi (by omega)⟩
 rw [hw];refine q0w rfl rfl ?_;refine rQ fi120 ?_;refine cQ (q9X _) ?_;refine cQ (q9X _) ?_;refine cQ (j0T _) ?_;refine q0A 0 ?_;with_reducible refine sxE ?_
 refine q0a hm ?_;generalize [vTime a,vTime b,mIn 0 86400 s].all id=q at*;cases q with
 |false=>
  refine gQ ?_;trivial
 |true=>
  obtain ⟨h1,h2⟩:=hr rfl;rw [show -s=0-s by omega] at h2⊢
  refine gy2 h1 h2 ?_;refine cQ (q6X _ _ _) ?_;trivial
theorem z3d(t:Int):PC Tryz.prog 64 [rI t] (rB (vTime t)):=by
 have h:=j3b t t 0;have e:witB t t 0=vTime t:=by
  unfold witB;rw [Int.sub_self];cases vTime t<;>rfl
 rw [e] at h;refine q0w rfl rfl ?_;refine rQ fi64 ?_;refine cQ h ?_;trivial
def grpAt(l:List Int)(j:Nat):Bool:=vNum (l.getD j (Ty.dflt I64)) && (decide (j=0) ||decide (l.getD (j-1) (Ty.dflt I64) <l.getD j (Ty.dflt I64)))
def vPac(p:Pac):Bool:=vPrin p.1&& (vTime p.2.1&& (vNum p.2.2.1&& (decide ((p.2.2.2.1.length:Int)≤64) && (decide ((p.2.2.2.2.length:Int)≤16) && (allN p.2.2.2.1.length (grpAt p.2.2.2.1) && p.2.2.2.2.all vPrin)))))
theorem j4e(p:Prin)(hp:PrinT.ok p):PC Tryz.prog 67 [.agg (PrinT.cells p)] (rB (!vPrin p)):=by
 refine q0w rfl rfl ?_;refine rQ fi67 ?_;refine cQ (q4Y p hp) ?_;trivial
theorem j2W(l:List Prin)(hl:l.length≤1125899906842624)(ho:∀p∈l,PrinT.ok p):PC Tryz.prog 121 [.isl PrinT l,.fn 67 [] []] (rI (match firstN l.length (fun j=> !vPrin (l.getD j PrinT.dflt)) with|some i=>(i:Int) |none=> -1)):=by
 refine q0w rfl rfl ?_;refine rQ fi121 ?_;refine q0Q (fun i=>[(8,.raw (.int .i64 ((i:Nat):Int)))]) (l.length) (fun j=>(fun j=>vPrin (l.getD j PrinT.dflt)) j=true) (by first|decide|simp) (fun i=>rfl) ?_ fun i hi hall=> ?_
 · (with_reducible refine sxE ?_<;>try exact True.intro)
   all_goals (try rfl)
 have hwr:=wsx i (by omega)
 refine gQ ?_;have bad:i< (l.length)→(fun j=>vPrin (l.getD j PrinT.dflt)) i=false→allN (l.length) (fun j=>vPrin (l.getD j PrinT.dflt))=false:=fun hlt hv=>q0l hlt hv;have fin:¬i< (l.length)→allN (l.length) (fun j=>vPrin (l.getD j PrinT.dflt))=true:=fun h=>q0q fun j hj=>hall j (by omega)
 try dsimp only at bad fin hall
 refine ⟨fun hlt=>⟨⟨by omega,hlt⟩,q0a (j4e _ (ho _ (q0O hlt))) ?_⟩,fun hge=> ?_⟩
 · refine gQ ?_;refine ⟨fun h=> ?_,fun h=> ?_⟩
   · rw [q1Z hlt (by simpa using h) (fun j hj=>by simpa using hall j hj)]
   refine ⟨hlt,q0I hall (by simpa using h),⟨[],by simp⟩,?_⟩
   with_reducible refine sx1 hwr ?_;trivial
 rw [q2x (fun j hj=>by simpa using hall j (by omega))]
theorem j2y(l:List Prin)(hl:l.length≤1125899906842624)(ho:∀p∈l,PrinT.ok p):PC Tryz.prog 66 [.isl PrinT l,.fn 67 [] []] (rB (!l.all vPrin)):=by
 refine q0w rfl rfl ?_;refine rQ fi66 ?_;refine q0a (j2W l hl ho) ?_;cases hf:firstN l.length (fun j=> !vPrin (l.getD j PrinT.dflt)) with
 |none=>
  have ha:l.all vPrin=true:=by
   rw [Ba];intro x hx;obtain ⟨j,hj,rfl⟩:=AV hx;have:=List.find?_eq_none.1 hf j (Cq.2 hj);rw [q5i hj] at this;simpa using this
  rw [ha];refine gQ ?_;trivial
 |some i=>
  have hs:=q3p hf;have ha:l.all vPrin=false:=by
   rw [List.all_eq_false];refine ⟨_,q0O (d:=PrinT.dflt) hs.1,?_⟩;simpa using hs.2.1
  have hi:((0:Int)≤(i:Int))=True:=eq_true (by omega)
  rw [ha];refine gy1 hi ?_;trivial
theorem q3X(p:Pac)(ho:PacT.ok p):PC Tryz.prog 20 [.agg (PacT.cells p)] (rB (vPac p)):=by
 obtain ⟨c,a,u,g,w⟩:=p;obtain ⟨o1,_,_,o4,o5⟩:=ho;have hd:vPac (c,a,u,g,w)=(vPrin c&& (vTime a&& (vNum u&& (decide ((g.length:Int)≤64) && (decide ((w.length:Int)≤16) && (allN g.length (grpAt g) && w.all vPrin)))))):=rfl;rw [hd];clear hd;refine q0w rfl rfl ?_;refine rQ fi20 ?_;refine cQ (q4Y c o1) ?_;refine ⟨fun h1=> ?_,fun h1=> ?_⟩
 rotate_left
 · first| (simp only [AE,h1,AR,BE];done) |simp [AE,h1]
 refine cQ (z3d a) ?_;refine ⟨fun h2=> ?_,fun h2=> ?_⟩
 rotate_left
 · first| (simp only [AE,h2,AR,BE];done) |simp [AE,h2]
 refine cQ (j0c u) ?_;refine ⟨fun h3=> ?_,fun h3=> ?_⟩
 rotate_left
 · first| (simp only [AE,h3,AR,BE];done) |simp [AE,h3]
 refine ⟨fun h=>⟨fun h'=> ?_,fun h'=> ?_⟩,fun h=> ?_⟩
 · rw [decide_eq_false (show ¬(List.length w:Int)≤16 by omega)];simp
 rotate_left
 · rw [decide_eq_false (show ¬(List.length g:Int)≤64 by omega)];simp
 rw [show decide ((List.length g:Int)≤64)=true from decide_eq_true (by omega),show decide ((List.length w:Int)≤16)=true from decide_eq_true (by omega),h1,h2,h3]
 simp only [AE];refine q0Q (fun i=>[(36,.raw (.int .i64 ((i:Nat):Int)))]) (List.length g) (fun j=>(grpAt g) j=true) (by first|decide|simp) (fun i=>rfl) ?_ fun i hi hall=> ?_
 · (with_reducible refine sxE ?_<;>try exact True.intro)
   all_goals (try rfl)
 have hwr:=wsx i (by omega)
 refine gQ ?_;have bad:i< (List.length g)→(grpAt g) i=false→allN (List.length g) (grpAt g)=false:=fun hlt hv=>q0l hlt hv;have fin:¬i< (List.length g)→allN (List.length g) (grpAt g)=true:=fun h=>q0q fun j hj=>hall j (by omega)
 try dsimp only at bad fin hall
 have hgd:grpAt g i=(vNum (g.getD i (Ty.dflt I64)) && (decide (i=0) ||decide (g.getD (i-1) (Ty.dflt I64) <g.getD i (Ty.dflt I64)))):=rfl
 refine ⟨fun hlt=>⟨⟨by omega,hlt⟩,q0a (j0c _) ?_⟩,fun hge=>q0a (j2y w o5.1 o5.2) ?_⟩
 · cases hn:vNum (g.getD i (Ty.dflt I64)) with
   |false=>
    refine gQ ?_;rw [bad hlt (by rw [hgd,hn,AR]),AR]
   |true=>
    by_cases h0:i=0
    · have f0:((0:Int) < (i:Int))=False:=eq_false (by omega)
      refine gy1 f0 ?_;refine ⟨hlt,q0I hall (by rw [hgd,hn,decide_eq_true h0];rfl),⟨[],rfl⟩,?_⟩
      with_reducible refine sx1 hwr ?_;trivial
    have f0:((0:Int) < (i:Int))=True:=eq_true (by omega)
    have f1:IntKind.i64.wrap ((i:Int) -1)=((i-1:Nat):Int):=by rw [wrapi (by omega)];omega
    refine gy2 f0 f1 ?_;refine ⟨⟨by omega,by omega⟩,fun hle=> ?_,fun hle=> ?_⟩
    · rw [bad hlt (by rw [hgd,hn,decide_eq_false h0,decide_eq_false (show ¬g.getD (i-1) (Ty.dflt I64) <g.getD i (Ty.dflt I64) from CZ.2 hle)];rfl),AR]
    refine ⟨hlt,q0I hall (by rw [hgd,hn,decide_eq_true (show g.getD (i-1) (Ty.dflt I64) <g.getD i (Ty.dflt I64) from Int.not_le.1 hle),B8,AE]),⟨[],rfl⟩,?_⟩
    with_reducible refine sx1 hwr ?_;trivial
 rw [fin hge,AE];refine gQ ?_;exact Bool.not_not _
theorem z6c(p:Prin)(hp:PrinT.ok p):PC Tryz.prog 91 [.agg (PrinT.cells p)] (.isl .u8 (prinE p)):=by
 unfold prinE;refine q0u rfl rfl ?_;refine rQ fi91 ?_;refine cQ (z6u p hp) ?_;trivial
theorem z4A(n:Int)(l:List (PrinT).den)(g:Nat)(w:(PrinT).den→List UInt8)(hl:l.length≤1048576)(hone:∀x∈l,PC Tryz.prog g [.agg ((PrinT).cells x)] (.isl .u8 (w x))):
 PC Tryz.prog 95 [rI n,.isl (PrinT) l,.fn g [] []] (.isl .u8 (wrapS 160 n (listS (t:=PrinT) w l))):=by
 refine q0u rfl rfl ?_;refine rQ fi95 ?_;refine ⟨fun h0=> ?_,fun h0=> ?_⟩
 · unfold listS;rw [if_pos (by omega)];simp [wrapS]
 refine q3o 7 (.slice .u8) (mapN (t:=PrinT) w l) (fun i=>[(15,rI i)]) l.length (fun _=>True) rfl (by simp) (by simp [mapN]) rfl (fun i=>rfl) ?_ fun i hi _=> ?_
 · with_reducible refine sxE ?_;trivial
 have hwr:=wsx i (by omega)
 have hln:=z2P (w:=w) hi;refine gQ ?_;refine ⟨fun hlt=>⟨⟨by omega,hlt⟩,q0a (hone _ (q0O (d:=(PrinT).dflt) hlt)) ?_⟩,fun hge=> ?_⟩
 · refine gQ ?_;have hst:=z0W (t:=PrinT) (w:=w) hlt;refine ⟨⟨by omega,by omega⟩,q2a [_,_,_] [] hlt trivial (by rw [hst];rfl) ?_⟩
   with_reducible refine sx3 hwr hst ?_;trivial
 obtain rfl:i=l.length:=by omega
 refine q0A 0 ?_;with_reducible refine sxE ?_
 refine ⟨by omega,Ae _,?_⟩
 rw [Ah (Ae _)];refine cQ (q1Y (mapN (t:=PrinT) w l l.length) (by omega)) ?_
 refine cQ (q1K _ _) ?_;unfold listS;rw [if_neg (by omega)]
theorem z7g(n:Int)(l:List (I64).den)(g:Nat)(w:(I64).den→List UInt8)(hl:l.length≤1048576)(hone:∀x∈l,PC Tryz.prog g [rI x] (.isl .u8 (w x))):
 PC Tryz.prog 94 [rI n,.isl (I64) l,.fn g [] []] (.isl .u8 (wrapS 160 n (listS (t:=I64) w l))):=by
 refine q0u rfl rfl ?_;refine rQ fi94 ?_;refine ⟨fun h0=> ?_,fun h0=> ?_⟩
 · unfold listS;rw [if_pos (by omega)];simp [wrapS]
 refine q3o 7 (.slice .u8) (mapN (t:=I64) w l) (fun i=>[(15,rI i)]) l.length (fun _=>True) rfl (by simp) (by simp [mapN]) rfl (fun i=>rfl) ?_ fun i hi _=> ?_
 · with_reducible refine sxE ?_;trivial
 have hwr:=wsx i (by omega)
 have hln:=z2P (w:=w) hi;refine gQ ?_;refine ⟨fun hlt=>⟨⟨by omega,hlt⟩,q0a (hone _ (q0O (d:=(I64).dflt) hlt)) ?_⟩,fun hge=> ?_⟩
 · refine gQ ?_;have hst:=z0W (t:=I64) (w:=w) hlt;refine ⟨⟨by omega,by omega⟩,q2a [_,_] [] hlt trivial (by rw [hst];rfl) ?_⟩
   with_reducible refine sx3 hwr hst ?_;trivial
 obtain rfl:i=l.length:=by omega
 refine q0A 0 ?_;with_reducible refine sxE ?_
 refine ⟨by omega,Ae _,?_⟩
 rw [Ah (Ae _)];refine cQ (q1Y (mapN (t:=I64) w l l.length) (by omega)) ?_
 refine cQ (q1K _ _) ?_;unfold listS;rw [if_neg (by omega)]
def pacS(p:Pac):List UInt8:=elemS 48 [wrapS 160 0 (prinE p.1),wrapS 160 1 (timeS p.2.1),wrapS 160 2 (intS p.2.2.1),wrapS 160 3 (listS (t:=I64) intS p.2.2.2.1),wrapS 160 4 (listS (t:=PrinT) prinE p.2.2.2.2)]
theorem z9T{p:Pac}(h:vPac p=true):p.2.2.2.1.length≤64∧p.2.2.2.2.length≤16:=by
 simp only [vPac,Aj,decide_eq_true_eq] at h;omega
theorem q3Y(p:Pac)(ho:PacT.ok p)(hv:vPac p=true):PC Tryz.prog 45 [.agg (PacT.cells p)] (.isl .u8 (pacS p)):=by
 obtain ⟨l1,l2⟩:=z9T hv;clear hv;obtain ⟨c,a,u,g,w⟩:=p;obtain ⟨o1,_,_,o4,o5⟩:=ho;dsimp only at l1 l2;refine q0u rfl rfl ?_;refine rQ fi45 ?_;refine cR (z6c c o1) ?_;refine cR (q1K _ _) ?_;refine cR (j3J _) ?_;refine cR (q1K _ _) ?_;refine cR (q3M _) ?_;refine cR (q1K _ _) ?_;refine cR (z7g 3 g _ intS (by omega) fun x _=>q3M x) ?_
 refine cR (z4A 4 w _ prinE (by omega) fun x hx=>z6c x (o5.2 x hx)) ?_
 refine q0L 1 (by decide) ?_
 with_reducible refine sxE ?_
 refine cR (q1Y _ (by simp)) ?_
 rfl
theorem z8Q(p:Pac)(ho:PacT.ok p):PC Tryz.prog 19 [.agg (PacT.cells p)] (.tup [.isl .u8 (if vPac p then pacS p else []),rI (if vPac p then 0 else 2)]):=by
 have h1:=q3X p ho;have h2:=q3Y p ho;generalize vPac p=v at*;generalize pacS p=w at*;obtain ⟨c,a,u,g,l⟩:=p;refine q0u rfl rfl ?_;refine rQ fi19 ?_;refine q0a h1 ?_;cases v with
 |false=>
  refine gQ ?_;trivial
 |true=>
  refine gQ ?_;refine cQ (h2 rfl) ?_;trivial
def bindS(p:Pac)(c:Prin)(t:Int):Int:=if vPac p&& (vPrin c&& vTime t) then (if p.1=c∧p.2.1=t then 0 else 232) else 2
theorem q6R(p:Pac)(c:Prin)(t:Int)(ho:PacT.ok p)(hc:PrinT.ok c):PC Tryz.prog 27 [.agg (PacT.cells p),.agg (PrinT.cells c),rI t] (rI (bindS p c t)):=by
 have h1:=q3X p ho;have h2:=q4Y c hc;have h3:=z8k p.1 c ho.1;unfold bindS;generalize vPac p=v at*;generalize vPrin c=v2 at*;generalize hv3:vTime t=v3 at*;obtain ⟨⟨c1,c2⟩,a,u,g,l⟩:=p;obtain ⟨d1,d2⟩:=c;dsimp only at h3;refine q0w rfl rfl ?_;refine rQ fi27 ?_;refine q0a h1 ?_;cases v with
 |false=>
  refine gQ ?_;trivial
 |true=>
  refine gQ ?_;refine q0a h2 ?_;cases v2 with
  |false=>
   refine gQ ?_;trivial
  |true=>
   refine gQ ?_;refine q0a (hv3▸z3d t) ?_;cases v3 with
   |false=>
    refine gQ ?_;trivial
   |true=>
    refine gQ ?_;refine cQ h3 ?_;exact ⟨fun h=>⟨fun h'=>by rw [if_neg (fun x=>h' x.2)],fun h'=>by rw [if_pos ⟨h,h'⟩]⟩,fun h=>by rw [if_neg (fun x=>h x.1)]⟩
theorem j0M(x v:Int):PC Tryz.prog 82 [rI x,.iptr I64 v 0] (rB (decide (x=v))):=by
 refine q0w rfl rfl ?_;refine rQ fi82 ?_;trivial
theorem j2M(l:List Int)(v:Int)(hl:l.length≤1125899906842624):PC Tryz.prog 142 [.isl I64 l,.fn 82 [] [.iptr I64 v 0]] (rI (match firstN l.length (fun j=>decide (l.getD j (Ty.dflt I64)=v)) with|some i=>(i:Int) |none=> -1)):=by
 refine q0w rfl rfl ?_;refine rQ fi142 ?_;refine q0Q (fun i=>[(8,.raw (.int .i64 ((i:Nat):Int)))]) (l.length) (fun j=>(fun j=> !decide (l.getD j (Ty.dflt I64)=v)) j=true) (by first|decide|simp) (fun i=>rfl) ?_ fun i hi hall=> ?_
 · (with_reducible refine sxE ?_<;>try exact True.intro)
   all_goals (try rfl)
 have hwr:=wsx i (by omega)
 refine gQ ?_;have bad:i< (l.length)→(fun j=> !decide (l.getD j (Ty.dflt I64)=v)) i=false→allN (l.length) (fun j=> !decide (l.getD j (Ty.dflt I64)=v))=false:=fun hlt hv=>q0l hlt hv;have fin:¬i< (l.length)→allN (l.length) (fun j=> !decide (l.getD j (Ty.dflt I64)=v))=true:=fun h=>q0q fun j hj=>hall j (by omega)
 try dsimp only at bad fin hall
 have hall':∀j,j<i→¬l.getD j (Ty.dflt I64)=v:=fun j hj=>by simpa using hall j hj
 refine ⟨fun hlt=>⟨⟨by omega,hlt⟩,q0a (j0M _ _) ?_⟩,fun hge=> ?_⟩
 · refine gQ ?_;refine ⟨fun h=> ?_,fun h=> ?_⟩
   · rw [q1Z hlt (by simpa using h) (fun j hj=>by simpa using hall j hj)]
   refine ⟨hlt,q0I hall' (by simpa using h),⟨[],by simp⟩,?_⟩
   with_reducible refine sx1 hwr ?_;trivial
 rw [q2x (fun j hj=>by simpa using hall j (by omega))]
theorem z8v(l:List Int)(v:Int)(hl:l.length≤1125899906842624):PC Tryz.prog 81 [.isl I64 l,.fn 82 [] [.iptr I64 v 0]] (rB (decide (v∈l))):=by
 refine q0w rfl rfl ?_;refine rQ fi81 ?_;refine q0a (j2M l v hl) ?_;cases hf:firstN l.length (fun j=>decide (l.getD j (Ty.dflt I64)=v)) with
 |none=>
  have ha:¬v∈l:=by
   intro hx;obtain ⟨j,hj,e⟩:=AV hx;have:=List.find?_eq_none.1 hf j (Cq.2 hj);rw [q5i hj] at this;simp [e] at this
  rw [decide_eq_false ha];refine gQ ?_;trivial
 |some i=>
  have hs:=q3p hf;have ha:v∈l:=by
   have h2:=of_decide_eq_true hs.2.1;rw [←h2];exact q0O hs.1
  have hi:((0:Int)≤(i:Int))=True:=eq_true (by omega)
  rw [decide_eq_true ha];refine gy1 hi ?_;trivial
theorem z3m(p:Pac)(v:Int)(ho:PacT.ok p):PC Tryz.prog 34 [.agg (PacT.cells p),rI v] (rB (decide (v∈p.2.2.2.1))):=by
 obtain ⟨c,a,u,g,l⟩:=p;have h:=z8v g v ho.2.2.2.1.1;refine q0w rfl rfl ?_;refine q4s fi34 ?_;refine uQ 4 _ ?_;with_reducible refine sxE ?_
 refine q3L 3 1 (ty:=I64) (x:=v) rfl trivial rfl rfl ?_;refine gQ ?_;refine cQ h ?_;trivial
def is128(l:List Pre)(j:Nat):Bool:=decide ((l.getD j PreT.dflt).1=(128:Int))
def findD(l:List Pre):List UInt8×Bool:=match firstN l.length (is128 l) with
 |some i=>((l.getD i PreT.dflt).2,true)
 |none=>([],false)
end Go.Proofs.YtmapiojgmbgbgaaGreatDoor
