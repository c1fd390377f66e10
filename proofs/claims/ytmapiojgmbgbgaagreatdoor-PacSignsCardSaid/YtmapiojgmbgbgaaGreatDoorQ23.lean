/- Contracts: reading names. -/
import Derived.Test.YtmapiojgmbgbgaaGreatDoorQ22
set_option linter.all false
namespace Go.Proofs.YtmapiojgmbgbgaaGreatDoor
open Go Go.Sx Go.Proofs
set_option maxRecDepth 100000
set_option maxHeartbeats 4000000
abbrev zPrin:SV:=.agg [.isl .str [],rS ⟨#[]⟩]
def rO{α:Type}(res:α→SV)(z:SV):Except Nat (α×Nat)→Out
 |.ok (v,_)=>.ret (.tup [res v,rI 0])
 |.error e=>.ret (.tup [z,rI e])
def rH{α:Type}(b:List UInt8)(n:Nat):Except Nat (α×Nat)→List SObj
 |.ok (_,k)=>[rdr b (n+k)]
 |.error _=>[rdr b n]
attribute [go_sem] rO rH
theorem j4Q{P:Program}{α:Type}{f:FuncId}{args:List SV}{b:List UInt8}{n:Nat}{res:α→SV}{z:SV}{x:Except Nat (α×Nat)}(h:VC P f args [rdr b n] (SealO (rO res z x) (rH b n x))):EffR P f args b n res z x:=by
 cases x with
 |error e=>exact q0b (by simp [rH]) h
 |ok y=>exact q0b (by simp [rH]) h
theorem j4F(b:List UInt8)(n:Nat)(hn:n≤b.length)(hb:b.length≤1099511627776)(h:takeE 48 (b.drop n)≠0):
 EffR Tryz.prog 128 [.ptr 0 0] b n (fun p:Prin=>.agg (PrinT.cells p)) zPrin (nameP (b.drop n)):=by
 have hs:=z0F b n hn hb h;have he:nameP (b.drop n)= .error (takeE 48 (b.drop n)):=by unfold nameP;rw [z5X h];rfl
 rw [he];clear he;generalize takeE 48 (b.drop n)=e at*;refine q0b (by simp) ?_
 refine defE mixed fi128 ?_;refine eQ [0] (z6U b n) ?_;refine gQ ?_;refine eQ [0] (hs) ?_;refine effP [] (q6H e h) ?_;refine ⟨by simp,q5W b n n e _ _ _ _ _ _ _ [] _ ?_⟩
 with_reducible refine sxE ?_;trivial
theorem j1q{β:Type}{l r:List UInt8}{f:List ByteArray→PR β}{e:Nat}(h:listP strP l.length l= .error e):bindP (strsP l) f r= .error e:=by unfold bindP strsP atP;rw [h]
theorem j1m{β:Type}{l r:List UInt8}{f:List ByteArray→PR β}{xs:List ByteArray}{m:Nat}(h:listP strP l.length l= .ok (xs,m)):bindP (strsP l) f r=shiftP 0 (f xs r):=by
 unfold bindP strsP atP;rw [h];simp only [As];cases f xs r with
 |error e=>rfl
 |ok y=>rfl
theorem j1F{α:Type}{j k:Nat}{x:Except Nat (α×Nat)}:shiftP j (shiftP k x)=shiftP (j+k) x:=by
 cases x with
 |error e=>rfl
 |ok y=>obtain ⟨u,m⟩:=y;simp only [shiftP,Nat.add_assoc]
theorem j2T(H:List SObj)(K:List SObj→Prop)(h:∀G,K (H++G)):DCall Tryz.prog 178 [.ptr 5 0,.ptr 1 0,.ptr 2 0,.ptr 3 0] none H K:=by
 refine recE mixed fi178 ?_;simpa using h []
theorem j4s(b:List UInt8)(n:Nat)(hn:n≤b.length)(hb:b.length≤1099511627776)(h:takeE 48 (b.drop n)=0):
 EffR Tryz.prog 128 [.ptr 0 0] b n (fun p:Prin=>.agg (PrinT.cells p)) zPrin (nameP (b.drop n)):=by
 have hs:=q5T b n hn hb h;have hc:=q1u (n:=n) hb;have he:nameP (b.drop n)=chkP vPrin (closeP (takeC (b.drop n)).length (takeN (b.drop n)) (nameIn (takeC (b.drop n)))):=by unfold nameP;rw [z5S h]
 generalize nameP (b.drop n)=Y at*;generalize takeC (b.drop n)=c at*;generalize takeN (b.drop n)=N at*;refine j4Q ?_;unfold nameIn at he;have f0:=j5g 0 (by omega) c 0 (Ak _) hc
 rw [As] at f0;refine defE mixed fi128 ?_;refine eQ [0] (z6U b n) ?_;refine gQ ?_;refine eQ [0] (hs) ?_;refine eQ [6] (q7G c 0) ?_;cases h1:needP 0 (rdP 48 decOct) c with
 |error e=>
  rw [q4o h1] at he;subst he;rw [h1] at f0;have f0':PE Tryz.prog 180 [.ptr 0 0,rI (0:Nat),.fn 163 [] []] [rdr c 0] (.pan (errV e)) [.dead]:=f0;simp only [closeP,chkP];refine effP [6] (f0') ?_;refine ⟨by simp,q5W b n _ e _ _ _ _ _ _ _ [_] _ ?_⟩
  with_reducible refine sxE ?_;trivial
 |ok x=>
  obtain ⟨l,k⟩:=x;rw [z4t h1] at he;have hk:=q0J _ _ _ h1;rw [h1] at f0;have f0':PE Tryz.prog 180 [.ptr 0 0,rI (0:Nat),.fn 163 [] []] [rdr c 0] (.ret (.ptr 2 0)) [rdr c (0+k),.dead,rdr l 0]:=f0;rw [Ab] at f0';refine eQ [6] (f0') ?_;have hlb:l.length≤1099511627776:=(q3y (z7I (Q:=fun v:List UInt8=>v.length≤1099511627776) fun c v hc hd=>by unfold decOct at hd;cases hd;exact hc)) c l k hc h1
  generalize hX:listP strP l.length l=X;refine q1E 2 0 .str rfl rfl rfl ?_;with_reducible refine sxE ?_
  refine q0i (ι:=Nat×List ByteArray×List SObj) (fun s=>[]) (fun s=>[rdr b (n+N),.cells 94 [.ptr 0 0],.cells 24 [.bld (s.2.2.length+9) .str s.2.1.length,rS ⟨#[]⟩],.cells 36 [rI 0],rdr b n,.cells 94 [.ptr 4 0],rdr c k,.dead,rdr l s.1]++s.2.2++ [.row .str s.2.1]) (fun s=>l.length-s.1) (fun s=>s.2.1.length≤s.1∧s.1≤l.length∧(∀x∈s.2.1,x.size≤1099511627776)∧X=tailP s.2.1 s.1 (listP strP (l.length-s.2.1.length) (l.drop s.1))) (0,[],[]) ⟨Ag _,Ak _,by simp,?_⟩ rfl ?_ ?_
  · rw [As,BL,C5,z0k];exact hX.symm
  · with_reducible refine sxE ?_;trivial
  rintro ⟨m,xs,G⟩ ⟨i1,i2,i4,i3⟩;dsimp only at i1 i2 i3 i4;have hleft:=q2S l m i2;refine aQ ?_;refine q0P [8] hleft rfl (by decide) ⟨rfl,rfl,trivial⟩ rfl rfl ?_
  simp only [afterO,Out.ren,SV.ren,mgA,sig,SObj.ren,SV.renL,Az,Au,List.append_assoc,BA,BB,List.set,List.map,Ai];refine uQ 5 _ ?_;with_reducible refine sxaE ?_
  refine ⟨fun hp0=> ?_,fun hp0=> ?_⟩
  · have hml:m<l.length:=by omega
    refine j4w [2] mixed ?_;refine aQ ?_;cases hp:strP (l.drop m) with
    |error e=>
     have hr:=z7w l m i2 hlb hp;have hXe:=i3.trans (q7n hml (by omega) hp)
     rw [j1q (hX.trans hXe)] at he;subst he;simp only [shiftP,closeP,chkP];refine q0M [8] hr rfl (by decide) ⟨rfl,rfl,trivial⟩ rfl rfl ?_ ?_
     · simp (maxSteps:=3000000) only [mgA,sig,q1q,q1H,List.append_assoc,getA,getA0,setA,setA0,Ac,Nat.add_assoc,go_sem,↓zA,↓reduceIte,↓reduceDIte] <;>try simp only [zB]
     refine rnE ?_;refine aQ ?_;refine q0M [] (q6E (.string ⟨#[]⟩) e (q6L hp)) rfl (by decide) trivial rfl rfl ?_ ?_
     · simp (maxSteps:=3000000) only [mgA,sig,q1q,q1H,List.append_assoc,getA,getA0,setA,setA0,Ac,Nat.add_assoc,go_sem,↓zA,↓reduceIte,↓reduceDIte] <;>try simp only [zB]
     refine rnE ?_;refine j5z ?_;with_reducible refine sxaE ?_
     refine ⟨by simp,?_⟩
     have hpan:=fun K hK=>q5W b n (n+N) e 94 24 36 94 (.bld (G.length+9) .str xs.length) (rS ⟨#[]⟩) (.int .i64 0) ([rdr c k,.dead,rdr l m]++G++ [.row .str xs]) K hK;simp only [Az,Au,List.append_assoc] at hpan;refine hpan _ ?_;with_reducible refine sxaE ?_;trivial
    |ok y=>
     obtain ⟨v,q⟩:=y;have hr:=z6v l m i2 hlb hp;have hfit:=j2o hp;have hq2:=z6m (q6G hp).1;have hq:2≤q:=by rw [(q6G hp).2.2];exact hq2
     have hvs:=z6L (l.drop m) v q (by rw [Al];omega) hp
     rw [Al] at hfit;have hXs:=i3.trans (q6c hml (by omega) hp)
     refine q0M [8] hr rfl (by decide) ⟨rfl,rfl,trivial⟩ rfl rfl ?_ ?_
     · simp (maxSteps:=3000000) only [mgA,sig,q1q,q1H,List.append_assoc,getA,getA0,setA,setA0,Ac,Nat.add_assoc,go_sem,↓zA,↓reduceIte,↓reduceDIte] <;>try simp only [zB]
     refine rnE ?_;refine aQ ?_;refine q0d (q7u _) ?_;refine aQ ?_;refine ⟨by show v.size≤_;omega,⟨by omega,by omega⟩,j6g ?_⟩
     refine aQ ?_;refine ⟨(m+q,xs++ [v],G++ [.dead,.row .str [v]]),⟨by simp;omega,by dsimp only;omega,fun x hx=> ?_,?_⟩,by dsimp only;omega,?_,?_⟩
     · rcases B1.1 hx with hx|hx
       · exact i4 x hx
       rw [Cn] at hx;subst hx;exact hvs
     · dsimp only;rw [hXs,Ac,Bo,Nat.sub_sub]
     · simp
     with_reducible refine sxaE ?_;trivial
  have hXe:=i3.trans (q8n (by omega))
  rw [j1m (hX.trans hXe),j1F,AM] at he;clear hX hXe i3;refine q3f (ty:=.str) (xs:=xs) [rdr b (n+N),.cells 94 [.ptr 0 0],.cells 24 [.bld (G.length+9) .str xs.length,rS ⟨#[]⟩],.cells 36 [rI 0],rdr b n,.cells 94 [.ptr 4 0],rdr c k,.dead,rdr l m] [rdr b (n+N),.cells 94 [.ptr 0 0],.cells 24 [.bld 9 .str xs.length,rS ⟨#[]⟩],.cells 36 [rI 0],rdr b n,.cells 94 [.ptr 4 0],rdr c k,.dead,rdr l m] G rfl (by simp) (by simp) ?_ (by rfl) ?_ ?_ ?_
  · simp [SObj.ren,SV.ren,SV.renL,shift,Ba]
  · rfl
  · with_reducible refine sxE ?_;trivial
  with_reducible refine sxE ?_
  have hxs:xs.length≤1099511627776:=by omega
  refine q0Q 9 rfl rfl (by omega) ?_ ?_ ?_
  · with_reducible refine sxE ?_
    exact Ag _
  · with_reducible refine sxE ?_;trivial
  with_reducible refine sxE ?_
  rw [Aa (Ag _)];have hf1:=j5x 1 (by omega) c k hk hc
  cases h2:needP 1 strP (c.drop k) with
  |error e=>
   rw [q4o h2] at he;subst he;have hf1':=z0j hf1 h2;simp only [shiftP,closeP,chkP];refine gQ ?_;refine effP [6] (hf1') ?_;refine ⟨by simp,?_⟩
   have hpan:=fun K hK=>q5W b n (n+N) e 94 24 36 94 (.isl .str xs) (rS ⟨#[]⟩) (.int .i64 0) [.dead,.dead,rdr l m,.dead] K hK;simp only [Az,Au,List.append_assoc] at hpan;refine hpan _ ?_;with_reducible refine sxE ?_;trivial
  |ok y=>
   obtain ⟨t,q⟩:=y;rw [q5l h2] at he;have hf1':=z0d hf1 h2;have hkq:=q2M q0J hk h2;have hts:=q3y z6L (c.drop k) t q (by rw [Al];omega) h2
   have hlq:=q2S c (k+q) hkq;simp only [shiftP,retP,closeP] at he;refine gQ ?_;refine eQ [6] (hf1') ?_;refine eQ [6] (hlq) ?_;refine ⟨fun hle=>q0a (q5D (xs,t) ⟨⟨by show xs.length≤_;omega,fun x hx=>by have:=i4 x hx;show x.size≤_;omega⟩,by show t.size≤_;omega⟩) ?_,fun hgt=>⟨by simp,?_⟩⟩
   · rw [if_neg (by omega)] at he
     simp only [chkP] at he;cases hv:vPrin (xs,t) with
     |true=>
      rw [if_pos hv] at he;subst he;refine gQ ?_;refine j2T _ _ fun G=> ?_;with_reducible refine sxE ?_;trivial
     |false=>
      rw [if_neg (by rw [hv];decide)] at he
      subst he;refine gQ ?_;refine ⟨by simp,?_⟩
      have hpan:=fun K hK=>q5W b n (n+N) 6 94 24 36 94 (.isl .str xs) (rS t) (.int .i64 0) [rdr c (k+q),.dead,rdr l m,.dead] K hK;simp only [Az,Au,List.append_assoc] at hpan;refine hpan _ ?_;with_reducible refine sxE ?_;trivial
   rw [if_pos (by omega)] at he
   simp only [chkP] at he;subst he;have hpan:=fun K hK=>q5W b n (n+N) 6 94 24 36 94 (.isl .str xs) (rS t) (.int .i64 0) [rdr c (k+q),.dead,rdr l m,.dead] K hK;simp only [Az,Au,List.append_assoc] at hpan;refine hpan _ ?_;with_reducible refine sxE ?_;trivial
theorem z9H{α:Type}{p:PR α}{Q Q':α→Prop}(h:OkP p Q)(hq:∀v,Q v→Q' v):OkP p Q':=fun r v m hr hx=>hq v (h r v m hr hx)
theorem j2Q{p:PR Prin}{Q:Prin→Prop}(hq:∀v,vPrin v=true→Q v):OkP (fun r=>chkP vPrin (p r)) Q:=fun r v m _ hx=>by
 have hx:chkP vPrin (p r)= .ok (v,m):=hx;cases hp:p r with
 |error e=>rw [hp] at hx;cases hx
 |ok y=>
  obtain ⟨u,k⟩:=y;rw [hp] at hx;simp only [chkP] at hx;split at hx
  · cases hx;exact hq _ (by assumption)
  cases hx
theorem j4f{p:Prin}(h:vPrin p=true):PrinT.ok p:=by
 obtain ⟨h1,h2,h3⟩:=q5d h;exact ⟨⟨by omega,fun x hx=>by have:=h2 x hx;show x.size≤_;omega⟩,by show p.2.size≤_;omega⟩
theorem q9T:OkP nameP PrinT.ok:=j2Q fun _ h=>j4f h
theorem j4M:OkP octP (Ty.slice .u8).ok:=z7I fun c v hc hd=>by
 unfold decOct at hd;cases hd;exact ⟨by show c.length≤_;omega,fun _ _=>trivial⟩
theorem j4Z{t:Ty}{p:PR t.den}(n:Nat)(hn:n≤1000)(h:OkP p t.ok):OkP (inP 48 (listP p n)) (Ty.slice t).ok:=q9k (z9H (z3M h n) fun v hv=>⟨by have:=hv.1;omega,hv.2⟩)
theorem q7v{t:Ty}:(Ty.slice t).ok ([]:List t.den):=⟨by simp,by simp⟩
theorem z7Y:OkP keyP KeyT.ok:=q9k (q2c (Q1:=fun _=>True) q5E fun _ _=>q2c (Q1:=fun _=>True) q5E fun _ _=>q2c (q3y j4M) fun _ hc=>z3c ⟨trivial,trivial,hc⟩)
theorem j3Q:(Ty.str).ok (⟨#[]⟩:ByteArray):=by show (⟨#[]⟩:ByteArray).size≤_;exact Ak _
theorem z0X{α:Type}{p:PR α}(hp:ErrP p):∀n,ErrP (listP p n)
 |0,r,e,h=>by
  simp only [listP] at h;split at h<;>cases h
  decide
 |n+1,r,e,h=>by
  simp only [listP] at h;split at h
  · cases h
  cases h1:p r with
  |error e1=>rw [h1] at h;cases h;exact hp r _ h1
  |ok y=>
   obtain ⟨u,k⟩:=y;rw [h1] at h;simp only at h;cases h2:listP p n (r.drop k) with
   |error e2=>rw [h2] at h;cases h;exact z0X hp n _ _ h2
   |ok z=>obtain ⟨w,l⟩:=z;rw [h2] at h;cases h
theorem z4r:ErrP nameP:=fun r e h=>by
 have hin:ErrP (inP 48 nameIn):=z3r (q3p (q4f q6r) fun l=>q3p (fun r' e' h'=>by
  unfold strsP atP at h';cases h1:listP strP l.length l with
  |error e1=>rw [h1] at h';cases h';exact z0X q6r _ _ _ h1
  |ok y=>obtain ⟨u,k⟩:=y;rw [h1] at h';cases h') fun _=>q3p (q4f q6r) fun _=>z3D)
 unfold nameP at h;cases h1:inP 48 nameIn r with
 |error e1=>rw [h1] at h;cases h;exact hin r _ h1
 |ok y=>
  obtain ⟨u,k⟩:=y;rw [h1] at h;simp only [chkP] at h;split at h<;>cases h
  decide
theorem q5U:FitsP nameP:=fun r v m h=>by
 unfold nameP at h;cases h1:inP 48 nameIn r with
 |error e1=>rw [h1] at h;cases h
 |ok y=>
  obtain ⟨u,k⟩:=y;rw [h1] at h;simp only [chkP] at h;split at h
  · cases h;exact q2B r _ _ h1
  cases h
theorem z7t(b:List UInt8)(n:Nat)(hn:n≤b.length)(hb:b.length≤1099511627776):
 EffR Tryz.prog 128 [.ptr 0 0] b n (fun p:Prin=>.agg (PrinT.cells p)) zPrin (nameP (b.drop n)):=by
 by_cases h:takeE 48 (b.drop n)=0
 · exact j4s b n hn hb h
 exact j4F b n hn hb h
end Go.Proofs.YtmapiojgmbgbgaaGreatDoor
namespace Go.Sx
open Go
variable [Ghost] {P:Program} {AQ:Ex→List SV→List SObj→Prop} {k0:Nat} {k:List IT} {t:List SV} {H:List SObj}

theorem z6a{G:List Nat}{f:FuncId}{args:List SV}{ty:Ty}{xs:List ty.den}{d:Option Tmp}{td:List IT}(hp:VC P f args [] (RowK ty xs))(hb:SV.belL 0 args=true)(hargs:args=SV.renL (sig [] H.length) args)(hG:SameG G H (H++ [.row ty xs]))
 (h0:xs= []→SoundI P AQ ⟨k0,td,putT t d (.raw (.slice none 0 0)),H⟩)(h:SoundI P AQ ⟨k0,td,putT t d (.bld H.length ty xs.length),H++ [.row ty xs]⟩):CallR P AQ G f args d ⟨k0,td,t,H⟩:=by
 refine ⟨hp.1,VCall.g ?_⟩;rw [hargs];refine VCall.fr (H0:=[]) [] (by simp) trivial hb rfl hp.2 ?_
 rintro o H' _ (⟨e,rfl,rfl⟩ | ⟨rfl,rfl⟩)
 · simp only [mgA,Cs,Ai];exact ⟨fun _=>SameG.refl _ _,h0 e⟩
 exact ⟨fun _=>hG,h⟩
theorem VC.arg{f:FuncId}{args args':List SV}{K:Out→List SObj→Prop}(h:VC P f args H K)(hl:SV.leVL args' args):VC P f args' H K:=
 ⟨h.1,fun C vs hw ht hv=>h.2 C vs hw ht (q5i hl hv)⟩
end Go.Sx
namespace Go.Proofs.YtmapiojgmbgbgaaGreatDoor
open Go Go.Sx Go.Proofs
set_option maxRecDepth 100000
set_option maxHeartbeats 4000000
theorem q4e{α β:Type}{p:PR α}{f:α→PR β}{b:List UInt8}{n N:Nat}{X:Except Nat (β×Nat)}{e:Nat}(hX:X=shiftP N (bindP p f (b.drop n)))(h:p (b.drop n)= .error e):X= .error e:=by
 rw [hX,q4o h];rfl
theorem q3W{α β:Type}{p:PR α}{f:α→PR β}{b:List UInt8}{n N:Nat}{X:Except Nat (β×Nat)}{v:α}{k:Nat}(hX:X=shiftP N (bindP p f (b.drop n)))(h:p (b.drop n)= .ok (v,k)):X=shiftP (N+k) (f v (b.drop (n+k))):=by
 rw [hX,q5l h];cases f v (b.drop (n+k)) with
 |error e=>rfl
 |ok y=>obtain ⟨u,m⟩:=y;simp only [shiftP,Nat.add_assoc]
theorem z7g{α:Type}{p:PR α}{b:List UInt8}{n:Nat}:p (b.drop n)=shiftP 0 (p (b.drop n)):=by
 cases p (b.drop n) with
 |error e=>rfl
 |ok y=>obtain ⟨u,m⟩:=y;simp only [shiftP,Ab]
@[go_sem] abbrev mU(o:Int):SV:=.raw (.int .u32 o)
theorem z1H(k:Key):PC Tryz.prog 96 [.agg (KeyT.cells k)] (.isl .u8 (keyS k)):=by
 refine q0f rfl rfl ?_;refine rQ fi96 ?_;refine cQ (j1i _ _ _) ?_;trivial
theorem j3o(b:List UInt8)(n:Nat)(hn:n≤b.length)(hb:b.length≤1099511627776):
 EffZ Tryz.prog 165 [.ptr 0 0] b n (posX b n) (fun v:Key=>.agg (KeyT.cells v)) (keyP (b.drop n)):=by
 have ht:=z8v b n hn hb;refine z2p ?_;generalize keyP (b.drop n)=X at*;cases X with
 |error e=>
  have ht':=z6n ht rfl;refine rQ fi165 ?_;refine effP [0] (ht') ?_;trivial
 |ok x=>
  obtain ⟨v,k⟩:=x;have ht':=z8U ht rfl;refine rQ fi165 ?_;refine eQ [0] (ht') ?_;trivial
theorem j1l(b:List UInt8)(n m e:Nat)(T2 T4 T5 T6:TypeId)(y:Value)(K:List SObj→Prop)
 (h:∀G,K ([rdr b n,.cells T2 [.ptr 0 0],.cells T4 [rI 0,rI 0,.raw (.slice none 0 0)],.cells T5 [rI e],.cells T6 [rI n]]++G)):
 DCall Tryz.prog 210 [.ptr 4 0,.ptr 1 0,.ptr 2 0,.ptr 3 0] (some (errV e)) [rdr b m,.cells T2 [.ptr 0 0],.cells T4 [rI 0,rI 0,.raw (.slice none 0 0)],.cells T5 [.raw y],.cells T6 [rI n]] K:=by
 refine j3i fi210 ?_;refine uQ 16 _ ?_;with_reducible refine sxE ?_
 refine q2t [999999,1,4,5] mixed ?_;refine uQ 600 _ ?_;simp (maxSteps:=3000000) only [List.getElem?_nil,go_sem,↓zA,↓reduceIte,↓reduceDIte] <;>try simp only [zB]
 exact h _
theorem j1K(H:List SObj)(K:List SObj→Prop)(h:∀G,K (H++G)):DCall Tryz.prog 210 [.ptr 4 0,.ptr 1 0,.ptr 2 0,.ptr 3 0] none H K:=by
 refine recE mixed fi210 ?_;simpa using h []
theorem j3h(b:List UInt8)(n:Nat)(hn:n≤b.length)(hb:b.length≤1099511627776):
 EffR Tryz.prog 164 [.ptr 0 0,.fn 165 [] []] b n (fun v:Key=>.agg (KeyT.cells v)) zKey (keyP (b.drop n)):=by
 have hk:=j3o b n hn hb;generalize keyP (b.drop n)=X at*;cases X with
 |error e=>
  have hk':=z6n hk rfl;refine q0b (by simp) ?_
  refine defE mixed fi164 ?_;refine gQ ?_;refine effP [0] (hk') ?_;refine ⟨by simp,j1l b n _ e _ _ _ _ _ _ fun G=> ?_⟩
  with_reducible refine sxE ?_;trivial
 |ok x=>
  obtain ⟨v,k⟩:=x;have hk':=z8U hk rfl;refine q0b (by simp) ?_
  refine defE mixed fi164 ?_;refine gQ ?_;refine eQ [0] (hk') ?_;refine j1K _ _ fun G=> ?_;with_reducible refine sxE ?_;trivial
theorem z4Y(b:List UInt8)(n:Nat)(hn:n≤b.length)(hb:b.length≤1099511627776):
 EffR Tryz.prog 111 [.ptr 0 0] b n (fun v:Key=>.agg (KeyT.cells v)) zKey (keyP (b.drop n)):=by
 have hk:=j3h b n hn hb;generalize keyP (b.drop n)=X at*;cases X with
 |error e=>
  have hk':=q7H hk rfl;refine q0b (by simp) ?_
  refine rQ fi111 ?_;refine eQ [0] (hk') ?_;trivial
 |ok x=>
  obtain ⟨v,k⟩:=x;have hk':=q7Y hk rfl;refine q0b (by simp) ?_
  refine rQ fi111 ?_;refine eQ [0] (hk') ?_;trivial
set_option synthInstance.maxSize 2000
set_option synthInstance.maxHeartbeats 400000
theorem z0M(l l':List ByteArray)(hl:(Ty.slice Ty.str).ok l):PC Tryz.prog 141 [.isl .str l,.isl .str l'] (rB (decide (l=l'))):=by
 have hlen:=hl.1;have key:=sameN l l' (ByteArray.empty);refine q0p rfl rfl ?_;refine rQ fi141 ?_<;>try with_reducible exact True.intro
 repeat' (first
  | (with_reducible refine And.intro ?_ ?_)
  | (with_reducible intro _))
 all_goals (skip)
 · grind
 refine q0R (fun i=>[(13,.raw (.int .i64 ((i:Nat):Int)))]) (l.length) (fun j=>(eqAt l l' ByteArray.empty) j=true) (by first|decide|simp) (fun i=>rfl) ?_ fun i hi hall=> ?_
 · (with_reducible refine sxE ?_<;>try exact True.intro)
   all_goals (try rfl)
 have hwr:=wsx i (by omega)
 refine gQ ?_;have bad:i< (l.length)→(eqAt l l' ByteArray.empty) i=false→allN (l.length) (eqAt l l' ByteArray.empty)=false:=fun hlt hv=>q0o hlt hv;have fin:¬i< (l.length)→allN (l.length) (eqAt l l' ByteArray.empty)=true:=fun h=>q0u fun j hj=>hall j (by omega)
 try dsimp only at bad fin hall
 repeat' (first
  | (refine q0a (skip) ?_;refine uQ 600 _ ?_;simp (maxSteps:=3000000) only [go_sem,↓zA,↓reduceIte,↓reduceDIte] <;>try simp only [zB])
  | (refine q0d (skip) ?_;refine uQ 600 _ ?_;simp (maxSteps:=3000000) only [go_sem,↓zA,↓reduceIte,↓reduceDIte] <;>try simp only [zB])
  | (refine q0q (skip) ?_;refine uQ 600 _ ?_;simp (maxSteps:=3000000) only [go_sem,↓zA,↓reduceIte,↓reduceDIte] <;>try simp only [zB])
  | (with_reducible refine And.intro ?_ ?_)
  | (with_reducible intro _))
 all_goals (first| (with_reducible (refine (id ?_:SoundI _ _ _))) | ((try simp only [Ty.dflt] at*);first|omega| (refine ⟨by omega,q0X hall (by grind [eqAt]),⟨_,by first|rfl|exact List.append_assoc _ _ _| (simp only [List.append_assoc,Az,Au];rfl)⟩,?_⟩;simp only [hwr,go_sem,↓zA,↓reduceIte,↓reduceDIte] <;> (first|rfl| (grind [eqAt]))) | (refine ⟨_,rfl⟩) | (refine ⟨_,List.append_assoc _ _ _⟩) | (grind [eqAt])))
theorem z9X(p p':Prin)(hp:PrinT.ok p):PC Tryz.prog 78 [.agg (PrinT.cells p),.agg (PrinT.cells p')] (rB (decide (p=p'))):=by
 obtain ⟨a,r⟩:=p;obtain ⟨a',r'⟩:=p';have hd:decide ((a,r)=(a',r'))=(decide (r=r') && decide (a=a')):=by
  rw [Bv];simp only [decide_eq_true_eq,Aj,Prod.mk.injEq];exact ⟨fun h=>⟨h.2,h.1⟩,fun h=>⟨h.2,h.1⟩⟩
 rw [show rB (decide ((a,r)=(a',r')))=rB (decide (r=r') && decide (a=a')) from by rw [hd]]
 clear hd;refine q0p rfl rfl ?_;refine rQ fi78 ?_<;>try with_reducible exact True.intro
 repeat' (first
  | (refine q0a (z0M _ _ hp.1) ?_;refine uQ 600 _ ?_;simp (maxSteps:=3000000) only [go_sem,↓zA,↓reduceIte,↓reduceDIte] <;>try simp only [zB])
  | (refine q0d (z0M _ _ hp.1) ?_;refine uQ 600 _ ?_;simp (maxSteps:=3000000) only [go_sem,↓zA,↓reduceIte,↓reduceDIte] <;>try simp only [zB])
  | (refine q0q (z0M _ _ hp.1) ?_;refine uQ 600 _ ?_;simp (maxSteps:=3000000) only [go_sem,↓zA,↓reduceIte,↓reduceDIte] <;>try simp only [zB])
  | (with_reducible refine And.intro ?_ ?_)
  | (with_reducible intro _))
 all_goals (skip)
 all_goals grind
abbrev PacT:Ty:=.prod PrinT (.prod I64 (.prod I64 (.prod (.slice I64) (.slice PrinT))))
abbrev Pac:=PacT.den
def vNum(v:Int):Bool:=mIn 0 2147483647 v
theorem j1R(v:Int):PC Tryz.prog 65 [rI v] (rB (vNum v)):=by
 refine q0p rfl rfl ?_;refine rQ fi65 ?_
 grind [vNum,mIn]
theorem q7K(v lo hi:Int):PC Tryz.prog 176 [rI v,rI lo,rI hi] (rB (mIn lo hi v)):=by
 refine q0p rfl rfl ?_;refine rQ fi176 ?_
 grind [mIn]
theorem z0V(v:Int):PC Tryz.prog 174 [rI v] (rB (vTime v)):=by
 refine q0p rfl rfl ?_;refine rQ fi174 ?_;refine cQ (q7K _ _ _) ?_;rfl
theorem j6h(l:List Bool)(hl:l.length≤1125899906842624):PC Tryz.prog 173 [.isl .bool l] (rB (l.all id)):=by
 refine q0p rfl rfl ?_;refine rQ fi173 ?_;refine cQ (q7s l hl) ?_;simp
theorem j2S(v:Int):PC Tryz.prog 175 [rI v] (rB (mIn 0 86400 v)):=by
 refine q0p rfl rfl ?_;refine rQ fi175 ?_;refine cQ (q7K _ _ _) ?_;trivial
def witB(a b s:Int):Bool:=vTime a&& (vTime b&& (mIn 0 86400 s&& mIn (-s) s (a-b)))
theorem j5i(a b s:Int):PC Tryz.prog 120 [rI a,rI b,rI s] (rB (witB a b s)):=by
 have hm:=j6h [vTime a,vTime b,mIn 0 86400 s] (by simp)
 have hw:witB a b s=(([vTime a,vTime b,mIn 0 86400 s].all id) && mIn (-s) s (a-b)):=by simp [witB,Bool.and_assoc]
 have hr:[vTime a,vTime b,mIn 0 86400 s].all id=true→IntKind.i64.wrap (a-b)=a-b∧IntKind.i64.wrap (-s)= -s:=fun h=>by
  simp only [Bs,Cr,id,BD,Aj,vTime,mIn,decide_eq_true_eq] at h;exact ⟨wrapi (by omega),wrapi (by omega)⟩
 rw [hw];refine q0p rfl rfl ?_;refine rQ fi120 ?_;refine cQ (z0V _) ?_;refine cQ (z0V _) ?_;refine cQ (j2S _) ?_;refine q0m 0 ?_;with_reducible refine sxE ?_
 refine q0a hm ?_;generalize [vTime a,vTime b,mIn 0 86400 s].all id=q at*;cases q with
 |false=>
  refine gQ ?_;trivial
 |true=>
  obtain ⟨h1,h2⟩:=hr rfl;rw [show -s=0-s by omega] at h2⊢
  refine gy2 h1 h2 ?_;refine cQ (q7K _ _ _) ?_;trivial
theorem z4k(t:Int):PC Tryz.prog 64 [rI t] (rB (vTime t)):=by
 have h:=j5i t t 0;have e:witB t t 0=vTime t:=by
  unfold witB;rw [Int.sub_self];cases vTime t<;>rfl
 rw [e] at h;refine q0p rfl rfl ?_;refine rQ fi64 ?_;refine cQ h ?_;trivial
def grpAt(l:List Int)(j:Nat):Bool:=vNum (l.getD j (Ty.dflt I64)) && (decide (j=0) ||decide (l.getD (j-1) (Ty.dflt I64) <l.getD j (Ty.dflt I64)))
def vPac(p:Pac):Bool:=vPrin p.1&& (vTime p.2.1&& (vNum p.2.2.1&& (decide ((p.2.2.2.1.length:Int)≤64) && (decide ((p.2.2.2.2.length:Int)≤16) && (allN p.2.2.2.1.length (grpAt p.2.2.2.1) && p.2.2.2.2.all vPrin)))))
theorem j6o(p:Prin)(hp:PrinT.ok p):PC Tryz.prog 67 [.agg (PrinT.cells p)] (rB (!vPrin p)):=by
 refine q0p rfl rfl ?_;refine rQ fi67 ?_;refine cQ (q5D p hp) ?_;trivial
theorem j5c(l:List Prin)(hl:l.length≤1125899906842624)(ho:∀p∈l,PrinT.ok p):PC Tryz.prog 121 [.isl PrinT l,.fn 67 [] []] (rI (match firstN l.length (fun j=> !vPrin (l.getD j PrinT.dflt)) with|some i=>(i:Int) |none=> -1)):=by
 refine q0p rfl rfl ?_;refine rQ fi121 ?_;refine q0R (fun i=>[(8,.raw (.int .i64 ((i:Nat):Int)))]) (l.length) (fun j=>(fun j=>vPrin (l.getD j PrinT.dflt)) j=true) (by first|decide|simp) (fun i=>rfl) ?_ fun i hi hall=> ?_
 · (with_reducible refine sxE ?_<;>try exact True.intro)
   all_goals (try rfl)
 have hwr:=wsx i (by omega)
 refine gQ ?_;have bad:i< (l.length)→(fun j=>vPrin (l.getD j PrinT.dflt)) i=false→allN (l.length) (fun j=>vPrin (l.getD j PrinT.dflt))=false:=fun hlt hv=>q0o hlt hv;have fin:¬i< (l.length)→allN (l.length) (fun j=>vPrin (l.getD j PrinT.dflt))=true:=fun h=>q0u fun j hj=>hall j (by omega)
 try dsimp only at bad fin hall
 refine ⟨fun hlt=>⟨⟨by omega,hlt⟩,q0a (j6o _ (ho _ (q0O hlt))) ?_⟩,fun hge=> ?_⟩
 · refine gQ ?_;refine ⟨fun h=> ?_,fun h=> ?_⟩
   · rw [q2R hlt (by simpa using h) (fun j hj=>by simpa using hall j hj)]
   refine ⟨hlt,q0X hall (by simpa using h),⟨[],by simp⟩,?_⟩
   with_reducible refine sx1 hwr ?_;trivial
 rw [q7r (fun j hj=>by simpa using hall j (by omega))]
theorem j4C(l:List Prin)(hl:l.length≤1125899906842624)(ho:∀p∈l,PrinT.ok p):PC Tryz.prog 66 [.isl PrinT l,.fn 67 [] []] (rB (!l.all vPrin)):=by
 refine q0p rfl rfl ?_;refine rQ fi66 ?_;refine q0a (j5c l hl ho) ?_;cases hf:firstN l.length (fun j=> !vPrin (l.getD j PrinT.dflt)) with
 |none=>
  have ha:l.all vPrin=true:=by
   rw [A3];intro x hx;obtain ⟨j,hj,rfl⟩:=AH hx;have:=CQ.1 hf j (Cp.2 hj);rw [q3t hj] at this;simpa using this
  rw [ha];refine gQ ?_;trivial
 |some i=>
  have hs:=q3J hf;have ha:l.all vPrin=false:=by
   rw [List.all_eq_false];refine ⟨_,q0O (d:=PrinT.dflt) hs.1,?_⟩;simpa using hs.2.1
  have hi:((0:Int)≤(i:Int))=True:=eq_true (by omega)
  rw [ha];refine gy1 hi ?_;trivial
theorem q4v(p:Pac)(ho:PacT.ok p):PC Tryz.prog 20 [.agg (PacT.cells p)] (rB (vPac p)):=by
 obtain ⟨c,a,u,g,w⟩:=p;obtain ⟨o1,_,_,o4,o5⟩:=ho;have hd:vPac (c,a,u,g,w)=(vPrin c&& (vTime a&& (vNum u&& (decide ((g.length:Int)≤64) && (decide ((w.length:Int)≤16) && (allN g.length (grpAt g) && w.all vPrin)))))):=rfl;rw [hd];clear hd;refine q0p rfl rfl ?_;refine rQ fi20 ?_;refine cQ (q5D c o1) ?_;refine ⟨fun h1=> ?_,fun h1=> ?_⟩
 rotate_left
 · first| (simp only [AE,h1,AR,BH];done) |simp [AE,h1]
 refine cQ (z4k a) ?_;refine ⟨fun h2=> ?_,fun h2=> ?_⟩
 rotate_left
 · first| (simp only [AE,h2,AR,BH];done) |simp [AE,h2]
 refine cQ (j1R u) ?_;refine ⟨fun h3=> ?_,fun h3=> ?_⟩
 rotate_left
 · first| (simp only [AE,h3,AR,BH];done) |simp [AE,h3]
 refine ⟨fun h=>⟨fun h'=> ?_,fun h'=> ?_⟩,fun h=> ?_⟩
 · rw [decide_eq_false (show ¬(List.length w:Int)≤16 by omega)];simp
 rotate_left
 · rw [decide_eq_false (show ¬(List.length g:Int)≤64 by omega)];simp
 rw [show decide ((List.length g:Int)≤64)=true from decide_eq_true (by omega),show decide ((List.length w:Int)≤16)=true from decide_eq_true (by omega),h1,h2,h3]
 simp only [AE];refine q0R (fun i=>[(36,.raw (.int .i64 ((i:Nat):Int)))]) (List.length g) (fun j=>(grpAt g) j=true) (by first|decide|simp) (fun i=>rfl) ?_ fun i hi hall=> ?_
 · (with_reducible refine sxE ?_<;>try exact True.intro)
   all_goals (try rfl)
 have hwr:=wsx i (by omega)
 refine gQ ?_;have bad:i< (List.length g)→(grpAt g) i=false→allN (List.length g) (grpAt g)=false:=fun hlt hv=>q0o hlt hv;have fin:¬i< (List.length g)→allN (List.length g) (grpAt g)=true:=fun h=>q0u fun j hj=>hall j (by omega)
 try dsimp only at bad fin hall
 have hgd:grpAt g i=(vNum (g.getD i (Ty.dflt I64)) && (decide (i=0) ||decide (g.getD (i-1) (Ty.dflt I64) <g.getD i (Ty.dflt I64)))):=rfl
 refine ⟨fun hlt=>⟨⟨by omega,hlt⟩,q0a (j1R _) ?_⟩,fun hge=>q0a (j4C w o5.1 o5.2) ?_⟩
 · cases hn:vNum (g.getD i (Ty.dflt I64)) with
   |false=>
    refine gQ ?_;rw [bad hlt (by rw [hgd,hn,AR]),AR]
   |true=>
    by_cases h0:i=0
    · have f0:((0:Int) < (i:Int))=False:=eq_false (by omega)
      refine gy1 f0 ?_;refine ⟨hlt,q0X hall (by rw [hgd,hn,decide_eq_true h0];rfl),⟨[],rfl⟩,?_⟩
      with_reducible refine sx1 hwr ?_;trivial
    have f0:((0:Int) < (i:Int))=True:=eq_true (by omega)
    have f1:IntKind.i64.wrap ((i:Int) -1)=((i-1:Nat):Int):=by rw [wrapi (by omega)];omega
    refine gy2 f0 f1 ?_;refine ⟨⟨by omega,by omega⟩,fun hle=> ?_,fun hle=> ?_⟩
    · rw [bad hlt (by rw [hgd,hn,decide_eq_false h0,decide_eq_false (show ¬g.getD (i-1) (Ty.dflt I64) <g.getD i (Ty.dflt I64) from CX.2 hle)];rfl),AR]
    refine ⟨hlt,q0X hall (by rw [hgd,hn,decide_eq_true (show g.getD (i-1) (Ty.dflt I64) <g.getD i (Ty.dflt I64) from Int.not_le.1 hle),Ca,AE]),⟨[],rfl⟩,?_⟩
    with_reducible refine sx1 hwr ?_;trivial
 rw [fin hge,AE];refine gQ ?_;exact Bool.not_not _
theorem z7G(p:Prin)(hp:PrinT.ok p):PC Tryz.prog 91 [.agg (PrinT.cells p)] (.isl .u8 (prinE p)):=by
 unfold prinE;refine q0f rfl rfl ?_;refine rQ fi91 ?_;refine cQ (z7W p hp) ?_;trivial
theorem z5K(n:Int)(l:List (PrinT).den)(g:Nat)(w:(PrinT).den→List UInt8)(hl:l.length≤1048576)(hone:∀x∈l,PC Tryz.prog g [.agg ((PrinT).cells x)] (.isl .u8 (w x))):
 PC Tryz.prog 95 [rI n,.isl (PrinT) l,.fn g [] []] (.isl .u8 (wrapS 160 n (listS (t:=PrinT) w l))):=by
 refine q0f rfl rfl ?_;refine rQ fi95 ?_;refine ⟨fun h0=> ?_,fun h0=> ?_⟩
 · unfold listS;rw [if_pos (by omega)];simp [wrapS]
 refine q2x 7 (.slice .u8) (mapN (t:=PrinT) w l) (fun i=>[(15,rI i)]) l.length (fun _=>True) rfl (by simp) (by simp [mapN]) rfl (fun i=>rfl) ?_ fun i hi _=> ?_
 · with_reducible refine sxE ?_;trivial
 have hwr:=wsx i (by omega)
 have hln:=q6X (w:=w) hi;refine gQ ?_;refine ⟨fun hlt=>⟨⟨by omega,hlt⟩,q0a (hone _ (q0O (d:=(PrinT).dflt) hlt)) ?_⟩,fun hge=> ?_⟩
 · refine gQ ?_;have hst:=q5t (t:=PrinT) (w:=w) hlt;refine ⟨⟨by omega,by omega⟩,q1z [_,_,_] [] hlt trivial (by rw [hst];rfl) ?_⟩
   with_reducible refine sx3 hwr hst ?_;trivial
 obtain rfl:i=l.length:=by omega
 refine q0m 0 ?_;with_reducible refine sxE ?_
 refine ⟨by omega,Ag _,?_⟩
 rw [Aa (Ag _)];refine cQ (q2l (mapN (t:=PrinT) w l l.length) (by omega)) ?_
 refine cQ (q1W _ _) ?_;unfold listS;rw [if_neg (by omega)]
theorem z8N(n:Int)(l:List (I64).den)(g:Nat)(w:(I64).den→List UInt8)(hl:l.length≤1048576)(hone:∀x∈l,PC Tryz.prog g [rI x] (.isl .u8 (w x))):
 PC Tryz.prog 94 [rI n,.isl (I64) l,.fn g [] []] (.isl .u8 (wrapS 160 n (listS (t:=I64) w l))):=by
 refine q0f rfl rfl ?_;refine rQ fi94 ?_;refine ⟨fun h0=> ?_,fun h0=> ?_⟩
 · unfold listS;rw [if_pos (by omega)];simp [wrapS]
 refine q2x 7 (.slice .u8) (mapN (t:=I64) w l) (fun i=>[(15,rI i)]) l.length (fun _=>True) rfl (by simp) (by simp [mapN]) rfl (fun i=>rfl) ?_ fun i hi _=> ?_
 · with_reducible refine sxE ?_;trivial
 have hwr:=wsx i (by omega)
 have hln:=q6X (w:=w) hi;refine gQ ?_;refine ⟨fun hlt=>⟨⟨by omega,hlt⟩,q0a (hone _ (q0O (d:=(I64).dflt) hlt)) ?_⟩,fun hge=> ?_⟩
 · refine gQ ?_;have hst:=q5t (t:=I64) (w:=w) hlt;refine ⟨⟨by omega,by omega⟩,q1z [_,_] [] hlt trivial (by rw [hst];rfl) ?_⟩
   with_reducible refine sx3 hwr hst ?_;trivial
 obtain rfl:i=l.length:=by omega
 refine q0m 0 ?_;with_reducible refine sxE ?_
 refine ⟨by omega,Ag _,?_⟩
 rw [Aa (Ag _)];refine cQ (q2l (mapN (t:=I64) w l l.length) (by omega)) ?_
 refine cQ (q1W _ _) ?_;unfold listS;rw [if_neg (by omega)]
def pacS(p:Pac):List UInt8:=elemS 48 [wrapS 160 0 (prinE p.1),wrapS 160 1 (timeS p.2.1),wrapS 160 2 (intS p.2.2.1),wrapS 160 3 (listS (t:=I64) intS p.2.2.2.1),wrapS 160 4 (listS (t:=PrinT) prinE p.2.2.2.2)]
theorem j1I{p:Pac}(h:vPac p=true):p.2.2.2.1.length≤64∧p.2.2.2.2.length≤16:=by
 simp only [vPac,Aj,decide_eq_true_eq] at h;omega
theorem q4z(p:Pac)(ho:PacT.ok p)(hv:vPac p=true):PC Tryz.prog 45 [.agg (PacT.cells p)] (.isl .u8 (pacS p)):=by
 obtain ⟨l1,l2⟩:=j1I hv;clear hv;obtain ⟨c,a,u,g,w⟩:=p;obtain ⟨o1,_,_,o4,o5⟩:=ho;dsimp only at l1 l2;refine q0f rfl rfl ?_;refine rQ fi45 ?_;refine cR (z7G c o1) ?_;refine cR (q1W _ _) ?_;refine cR (j5Q _) ?_;refine cR (q1W _ _) ?_;refine cR (q4h _) ?_;refine cR (q1W _ _) ?_;refine cR (z8N 3 g _ intS (by omega) fun x _=>q4h x) ?_
 refine cR (z5K 4 w _ prinE (by omega) fun x hx=>z7G x (o5.2 x hx)) ?_
 refine q0A 1 (by decide) ?_
 with_reducible refine sxE ?_
 refine cR (q2l _ (by simp)) ?_
 rfl
theorem j0E(p:Pac)(ho:PacT.ok p):PC Tryz.prog 19 [.agg (PacT.cells p)] (.tup [.isl .u8 (if vPac p then pacS p else []),rI (if vPac p then 0 else 2)]):=by
 have h1:=q4v p ho;have h2:=q4z p ho;generalize vPac p=v at*;generalize pacS p=w at*;obtain ⟨c,a,u,g,l⟩:=p;refine q0f rfl rfl ?_;refine rQ fi19 ?_;refine q0a h1 ?_;cases v with
 |false=>
  refine gQ ?_;trivial
 |true=>
  refine gQ ?_;refine cQ (h2 rfl) ?_;trivial
def bindS(p:Pac)(c:Prin)(t:Int):Int:=if vPac p&& (vPrin c&& vTime t) then (if p.1=c∧p.2.1=t then 0 else 232) else 2
theorem z1q(p:Pac)(c:Prin)(t:Int)(ho:PacT.ok p)(hc:PrinT.ok c):PC Tryz.prog 27 [.agg (PacT.cells p),.agg (PrinT.cells c),rI t] (rI (bindS p c t)):=by
 have h1:=q4v p ho;have h2:=q5D c hc;have h3:=z9X p.1 c ho.1;unfold bindS;generalize vPac p=v at*;generalize vPrin c=v2 at*;generalize hv3:vTime t=v3 at*;obtain ⟨⟨c1,c2⟩,a,u,g,l⟩:=p;obtain ⟨d1,d2⟩:=c;dsimp only at h3;refine q0p rfl rfl ?_;refine rQ fi27 ?_;refine q0a h1 ?_;cases v with
 |false=>
  refine gQ ?_;trivial
 |true=>
  refine gQ ?_;refine q0a h2 ?_;cases v2 with
  |false=>
   refine gQ ?_;trivial
  |true=>
   refine gQ ?_;refine q0a (hv3▸z4k t) ?_;cases v3 with
   |false=>
    refine gQ ?_;trivial
   |true=>
    refine gQ ?_;refine cQ h3 ?_;exact ⟨fun h=>⟨fun h'=>by rw [if_neg (fun x=>h' x.2)],fun h'=>by rw [if_pos ⟨h,h'⟩]⟩,fun h=>by rw [if_neg (fun x=>h x.1)]⟩
theorem j2K(x v:Int):PC Tryz.prog 82 [rI x,.iptr I64 v 0] (rB (decide (x=v))):=by
 refine q0p rfl rfl ?_;refine rQ fi82 ?_;trivial
theorem j4S(l:List Int)(v:Int)(hl:l.length≤1125899906842624):PC Tryz.prog 142 [.isl I64 l,.fn 82 [] [.iptr I64 v 0]] (rI (match firstN l.length (fun j=>decide (l.getD j (Ty.dflt I64)=v)) with|some i=>(i:Int) |none=> -1)):=by
 refine q0p rfl rfl ?_;refine rQ fi142 ?_;refine q0R (fun i=>[(8,.raw (.int .i64 ((i:Nat):Int)))]) (l.length) (fun j=>(fun j=> !decide (l.getD j (Ty.dflt I64)=v)) j=true) (by first|decide|simp) (fun i=>rfl) ?_ fun i hi hall=> ?_
 · (with_reducible refine sxE ?_<;>try exact True.intro)
   all_goals (try rfl)
 have hwr:=wsx i (by omega)
 refine gQ ?_;have bad:i< (l.length)→(fun j=> !decide (l.getD j (Ty.dflt I64)=v)) i=false→allN (l.length) (fun j=> !decide (l.getD j (Ty.dflt I64)=v))=false:=fun hlt hv=>q0o hlt hv;have fin:¬i< (l.length)→allN (l.length) (fun j=> !decide (l.getD j (Ty.dflt I64)=v))=true:=fun h=>q0u fun j hj=>hall j (by omega)
 try dsimp only at bad fin hall
 have hall':∀j,j<i→¬l.getD j (Ty.dflt I64)=v:=fun j hj=>by simpa using hall j hj
 refine ⟨fun hlt=>⟨⟨by omega,hlt⟩,q0a (j2K _ _) ?_⟩,fun hge=> ?_⟩
 · refine gQ ?_;refine ⟨fun h=> ?_,fun h=> ?_⟩
   · rw [q2R hlt (by simpa using h) (fun j hj=>by simpa using hall j hj)]
   refine ⟨hlt,q0X hall' (by simpa using h),⟨[],by simp⟩,?_⟩
   with_reducible refine sx1 hwr ?_;trivial
 rw [q7r (fun j hj=>by simpa using hall j (by omega))]
theorem j0k(l:List Int)(v:Int)(hl:l.length≤1125899906842624):PC Tryz.prog 81 [.isl I64 l,.fn 82 [] [.iptr I64 v 0]] (rB (decide (v∈l))):=by
 refine q0p rfl rfl ?_;refine rQ fi81 ?_;refine q0a (j4S l v hl) ?_;cases hf:firstN l.length (fun j=>decide (l.getD j (Ty.dflt I64)=v)) with
 |none=>
  have ha:¬v∈l:=by
   intro hx;obtain ⟨j,hj,e⟩:=AH hx;have:=CQ.1 hf j (Cp.2 hj);rw [q3t hj] at this;simp [e] at this
  rw [decide_eq_false ha];refine gQ ?_;trivial
 |some i=>
  have hs:=q3J hf;have ha:v∈l:=by
   have h2:=of_decide_eq_true hs.2.1;rw [←h2];exact q0O hs.1
  have hi:((0:Int)≤(i:Int))=True:=eq_true (by omega)
  rw [decide_eq_true ha];refine gy1 hi ?_;trivial
theorem z4u(p:Pac)(v:Int)(ho:PacT.ok p):PC Tryz.prog 34 [.agg (PacT.cells p),rI v] (rB (decide (v∈p.2.2.2.1))):=by
 obtain ⟨c,a,u,g,l⟩:=p;have h:=j0k g v ho.2.2.2.1.1;refine q0p rfl rfl ?_;refine q3E fi34 ?_;refine uQ 4 _ ?_;with_reducible refine sxE ?_
 refine q4g 3 1 (ty:=I64) (x:=v) rfl trivial rfl rfl ?_;refine gQ ?_;refine cQ h ?_;trivial
@[go_sem] abbrev wrongV:SV:=.iface 142 (.agg [rI 6])
theorem q3Y:PC Tryz.prog 103 [.raw (.bool true)] (.tup []):=by
 refine q0p rfl rfl ?_;refine rQ fi103 ?_;trivial
theorem z7M:PE Tryz.prog 103 [.raw (.bool false)] [] (.pan wrongV) []:=by
 refine q0b (by simp) ?_
 refine rQ fi103 ?_;trivial
theorem q0r{AQ:Ex→List SV→List SObj→Prop}{x:Bool}{d:Option Tmp}{m:IM}(h1:x=true→SoundI Tryz.prog AQ {m with tmps:=putT m.tmps d (.tup [])})(h2:x=false→AQ (.pan wrongV) m.tmps m.heap):
 CallI Tryz.prog AQ 103 [.raw (.bool x)] d m:=by
 cases x with
 |true=>exact q0a q3Y (h1 rfl)
 |false=>
  refine q0P [] z7M rfl (by decide) trivial rfl rfl ?_
  have:mgA (sig [] m.heap.length) [] [] m.heap=m.heap:=by simp [mgA]
  rw [this];exact h2 rfl
theorem q9q(v:Value):PC Tryz.prog 130 [.raw v,rI 0] (.raw v):=by
 refine q0p rfl rfl ?_;refine rQ fi130 ?_;refine cQ q3Y ?_;trivial
theorem q4X(v:Value)(e:Nat)(he:e≠0):PE Tryz.prog 130 [.raw v,rI e] [] (.pan wrongV) []:=by
 refine q0b (by simp) ?_
 refine rQ fi130 ?_;refine q0r (fun h=>absurd h (by simp;omega)) fun _=> ?_
 with_reducible refine sxE ?_;trivial
theorem q9W(b:List UInt8)(n:Nat):PE Tryz.prog 162 [.ptr 0 0,rI 0] [rdr b n] (.ret (.ptr 0 0)) [rdr b n]:=by
 refine q0b (by simp) ?_
 refine rQ fi162 ?_;refine cQ q3Y ?_;trivial
theorem z2y(e:Nat)(he:e≠0):PE Tryz.prog 162 [.raw (.pointer none),rI e] [] (.pan wrongV) []:=by
 refine q0b (by simp) ?_
 refine rQ fi162 ?_;refine q0r (fun h=>absurd h (by simp;omega)) fun _=> ?_
 with_reducible refine sxE ?_;trivial
theorem z6H(b:List UInt8)(n:Nat)(hn:n=b.length):PE Tryz.prog 102 [.agg [.ptr 0 0]] [rdr b n] (.ret (.tup [])) [rdr b n]:=by
 have he:=j6b b n (by omega)
 rw [if_neg (by omega)] at he
 refine q0b (by simp) ?_
 refine rQ fi102 ?_;refine eQ [0] (he) ?_;refine cQ q3Y ?_;trivial
theorem z8t(b:List UInt8)(n:Nat)(hn:n<b.length):PE Tryz.prog 102 [.agg [.ptr 0 0]] [rdr b n] (.pan wrongV) [.dead]:=by
 have he:=j6b b n (by omega)
 rw [if_pos hn] at he;refine q0b (by simp) ?_
 refine rQ fi102 ?_;refine eQ [0] (he) ?_;refine q0r (fun h=>absurd h (by simp)) fun _=> ?_
 with_reducible refine sxE ?_;trivial
def Eff(P:Program){α:Type}(f:FuncId)(args:List SV)(b:List UInt8)(n:Nat)(E:List SObj)(res:α→SV)(upd:α→List SObj):Except Nat (α×Nat)→Prop
 |.ok (v,k)=>PE P f args (rdr b n :: E) (.ret (res v)) (rdr b (n+k) :: upd v)
 |.error _=>PE P f args (rdr b n :: E) (.pan wrongV) (.dead :: E.map fun _=>.dead)
theorem q2e{P:Program}{α:Type}{f:FuncId}{args:List SV}{b:List UInt8}{n:Nat}{E:List SObj}{res:α→SV}{upd:α→List SObj}{x:Except Nat (α×Nat)}{v:α}{k:Nat}(h:Eff P f args b n E res upd x)(hx:x= .ok (v,k)):PE P f args (rdr b n :: E) (.ret (res v)) (rdr b (n+k) :: upd v):=by rw [hx] at h;exact h
theorem q2v{P:Program}{α:Type}{f:FuncId}{args:List SV}{b:List UInt8}{n:Nat}{E:List SObj}{res:α→SV}{upd:α→List SObj}{x:Except Nat (α×Nat)}{e:Nat}(h:Eff P f args b n E res upd x)(hx:x= .error e):PE P f args (rdr b n :: E) (.pan wrongV) (.dead :: E.map fun _=>.dead):=by rw [hx] at h;exact h
theorem sequence1{α:Type}(g:Nat)(b:List UInt8)(n:Nat)(hn:n≤b.length)(hb:b.length≤1099511627776)(T:TypeId)(cs:List SV)(hc:Cln cs)(p:PR α)(hp:FitsP p)(upd:α→List SV)(hu:∀v,Cln (upd v))
 (hg:Eff Tryz.prog g (.agg [.ptr 0 0] :: [.ptr 1 0]) (takeC (b.drop n)) 0 [.cells T cs] (fun _=>.tup []) (fun v=>[.cells T (upd v)]) (p (takeC (b.drop n)))):
 Eff Tryz.prog 105 [.agg [.ptr 0 0],.fn g [] [.ptr 1 0]] b n [.cells T cs] (fun _=>.tup []) (fun v=>[.cells T (upd v)]) (inP 48 p (b.drop n)):=by
 have w1:=z1Y hc;have w2:=And.intro w1 (z3s hu);rcases q4b (tag:=48) (p:=p) (r:=b.drop n) with ⟨h1,e⟩ | ⟨h1,e,h2,e'⟩ | ⟨h1,v,m,h2,h3,e⟩ | ⟨h1,v,m,h2,h3,e⟩
 · rw [e];have hs:=z0F b n hn hb h1;generalize takeE 48 (b.drop n)=ee at*;refine q0b (by simp) ?_
   refine rQ fi105 ?_;refine effC mixed [0] (hs) w1 ?_;refine effD [] (z2y ee h1) w1 ?_;trivial
 · rw [e'];have hs:=q5T b n hn hb h1;have hg':=q2v hg h2;generalize takeC (b.drop n)=c at*;refine q0b (by simp) ?_
   refine rQ fi105 ?_;refine effC mixed [0] (hs) w1 ?_;refine effC mixed [3] (q9W c 0) w1 ?_;refine effD [3,1] (hg') w1 ?_;trivial
 · rw [e];have hs:=q5T b n hn hb h1;have hg':=q2e hg h2;generalize takeC (b.drop n)=c at*;rw [Ab] at hg';refine q0b (by simp) ?_
   refine rQ fi105 ?_;refine effC mixed [0] (hs) w1 ?_;refine effC mixed [3] (q9W c 0) w1 ?_;refine effC mixed [3,1] (hg') w2 ?_;refine effD [3] (z8t c m h3) w2 ?_;trivial
 rw [e];have hs:=q5T b n hn hb h1;have hg':=q2e hg h2;have hm:=hp _ _ _ h2;generalize takeC (b.drop n)=c at*;rw [Ab] at hg';refine q0b (by simp) ?_
 refine rQ fi105 ?_;refine effC mixed [0] (hs) w1 ?_;refine effC mixed [3] (q9W c 0) w1 ?_;refine effC mixed [3,1] (hg') w2 ?_;refine effC mixed [3] (z6H c m (by omega)) w2 ?_;trivial
theorem z8E(g:Nat)(i:Nat)(hi:i≤30)(b:List UInt8)(n:Nat)(hn:n≤b.length)(T:TypeId)(cs:List SV)(hc:Cln cs)(h:nextB i (b.drop n)=false):
 PE Tryz.prog 134 [.agg [.ptr 0 0],rI i,.fn g [] [.ptr 1 0]] (rdr b n :: [.cells T cs]) (.ret (rB false)) (rdr b n :: [.cells T cs]):=by
 have w1:=z1Y hc;have hs:=q6u i hi b n hn h;refine q0b (by simp) ?_
 refine rQ fi134 ?_;refine effC mixed [0] (hs) w1 ?_;refine q0r (fun _=> ?_) fun h=>absurd h (by decide)
 refine gy1 w1 ?_;trivial
theorem z1w{α:Type}(g:Nat)(i:Nat)(hi:i≤30)(b:List UInt8)(n:Nat)(hn:n≤b.length)(hb:b.length≤1099511627776)(T:TypeId)(cs:List SV)(hc:Cln cs)(p:PR α)(hp:FitsP p)(upd:α→List SV)(hu:∀v,Cln (upd v))
 (hg:Eff Tryz.prog g (.agg [.ptr 0 0] :: [.ptr 1 0]) (takeC (b.drop n)) 0 [.cells T cs] (fun _=>.tup []) (fun v=>[.cells T (upd v)]) (p (takeC (b.drop n))))(h:nextB i (b.drop n)=true):
 Eff Tryz.prog 134 [.agg [.ptr 0 0],rI i,.fn g [] [.ptr 1 0]] b n [.cells T cs] (fun _=>rB true) (fun v=>[.cells T (upd v)]) (inP (tagB i) p (b.drop n)):=by
 have w1:=z1Y hc;have w2:=And.intro w1 (z3s hu);rcases q4b (tag:=tagB i) (p:=p) (r:=b.drop n) with ⟨h1,e⟩ | ⟨h1,e,h2,e'⟩ | ⟨h1,v,m,h2,h3,e⟩ | ⟨h1,v,m,h2,h3,e⟩
 · rw [e];have hs:=q7V i hi b n hn hb h h1;generalize takeE (tagB i) (b.drop n)=ee at*;refine q0b (by simp) ?_
   refine rQ fi134 ?_;refine effC mixed [0] (hs) w1 ?_;refine q0r (fun h=>absurd h (by simp;omega)) fun _=> ?_
   with_reducible refine sxE ?_;trivial
 · rw [e'];have hs:=q4K i hi b n hn hb h h1;have hg':=q2v hg h2;generalize takeC (b.drop n)=c at*;refine q0b (by simp) ?_
   refine rQ fi134 ?_;refine effC mixed [0] (hs) w1 ?_;refine q0r (fun _=> ?_) fun h=>absurd h (by decide)
   refine gQ ?_;refine effD [3,1] (hg') w1 ?_;trivial
 · rw [e];have hs:=q4K i hi b n hn hb h h1;have hg':=q2e hg h2;generalize takeC (b.drop n)=c at*;rw [Ab] at hg';refine q0b (by simp) ?_
   refine rQ fi134 ?_;refine effC mixed [0] (hs) w1 ?_;refine q0r (fun _=> ?_) fun h=>absurd h (by decide)
   refine gQ ?_;refine effC mixed [3,1] (hg') w2 ?_;refine effD [3] (z8t c m h3) w2 ?_;trivial
 rw [e];have hs:=q4K i hi b n hn hb h h1;have hg':=q2e hg h2;have hm:=hp _ _ _ h2;generalize takeC (b.drop n)=c at*;rw [Ab] at hg';refine q0b (by simp) ?_
 refine rQ fi134 ?_;refine effC mixed [0] (hs) w1 ?_;refine q0r (fun _=> ?_) fun h=>absurd h (by decide)
 refine gQ ?_;refine effC mixed [3,1] (hg') w2 ?_;refine effC mixed [3] (z6H c m (by omega)) w2 ?_;trivial
theorem need1{α:Type}(g:Nat)(i:Nat)(hi:i≤30)(b:List UInt8)(n:Nat)(hn:n≤b.length)(hb:b.length≤1099511627776)(T:TypeId)(cs:List SV)(hc:Cln cs)(p:PR α)(hp:FitsP p)(upd:α→List SV)(hu:∀v,Cln (upd v))
 (hg:Eff Tryz.prog g (.agg [.ptr 0 0] :: [.ptr 1 0]) (takeC (b.drop n)) 0 [.cells T cs] (fun _=>.tup []) (fun v=>[.cells T (upd v)]) (p (takeC (b.drop n)))):
 Eff Tryz.prog 107 [.agg [.ptr 0 0],rI i,.fn g [] [.ptr 1 0]] b n [.cells T cs] (fun _=>.tup []) (fun v=>[.cells T (upd v)]) (needP i p (b.drop n)):=by
 have w1:=z1Y hc;have w2:=And.intro w1 (z3s hu);cases h:nextB i (b.drop n) with
 |false=>
  have hm:=z8E g i hi b n hn T cs hc h;have:∃e,needP i p (b.drop n)= .error e:=⟨_,by unfold needP;rw [h];rfl⟩
  obtain ⟨e,he⟩:=this;rw [he];refine q0b (by simp) ?_
  refine rQ fi107 ?_;refine effC mixed [0,1] (hm) w1 ?_;refine q0r (fun h=>absurd h (by decide)) fun _=> ?_
  with_reducible refine sxE ?_;trivial
 |true=>
  have hm:=z1w g i hi b n hn hb T cs hc p hp upd hu hg h;have he:needP i p (b.drop n)=inP (tagB i) p (b.drop n):=by unfold needP;rw [h];rfl
  rw [he];cases hx:inP (tagB i) p (b.drop n) with
  |error e=>
   have hm':=q2v hm hx;refine q0b (by simp) ?_
   refine rQ fi107 ?_;refine effD [0,1] (hm') w1 ?_;trivial
  |ok x=>
   obtain ⟨v,k⟩:=x;have hm':=q2e hm hx;refine q0b (by simp) ?_
   refine rQ fi107 ?_;refine effC mixed [0,1] (hm') w2 ?_;refine q0r (fun _=> ?_) fun h=>absurd h (by decide)
   refine gy1 w2 ?_;trivial
end Go.Proofs.YtmapiojgmbgbgaaGreatDoor
