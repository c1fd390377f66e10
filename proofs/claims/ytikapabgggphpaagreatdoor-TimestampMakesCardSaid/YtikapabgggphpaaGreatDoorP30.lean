/- Timestamps: contracts: Make. -/
import Derived.Test.YtikapabgggphpaaGreatDoorP27
import Derived.Test.YtikapabgggphpaaGreatDoorP29
import Derived.Test.YtikapabgggphpaaGreatDoorP24
import Derived.KernelRfl
set_option linter.all false
namespace Go.Proofs.YtikapabgggphpaaGreatDoor
open Go Go.Sx Go.Proofs
set_option maxRecDepth 100000
set_option maxHeartbeats 40000000
theorem q8Z(k:Key)(ho:KeyT.ok k):PC Tryz.prog 16 [.agg (KeyT.cells k)] (rB (vKey k)):=by
 have hf:=j0E k;obtain ⟨p,v,b⟩:=k;change PC _ _ _ (.tup [.agg (rawL (kindOf p)),rB (vKey (p,v,b))]) at hf;generalize vKey (p,v,b)=vb at*;have h3:=q5C p;generalize kindOf p=kv at*;refine q0q rfl rfl ?_;rcases h3 with rfl|rfl|rfl
 all_goals
  refine rQ fi16 ?_;refine q0a hf ?_;refine uQ 600 _ ?_;simp (maxSteps:=3000000) only [kind1,kind2,kindZ,go_sem,↓zA,↓reduceIte,↓reduceDIte] <;>try simp only [zB]
def plnS(t m:Int):List UInt8:=elemS 48 [wrapS 160 0 (timeS t),wrapS 160 1 (intS m)]
def mkOk(k:Key)(t m:Int):Bool:=vKey k&& (decide (0≤t) && (decide (t≤1099511627776) && (decide (0≤m) && decide (m<1000000))))
theorem z7C(t m:Int):(plnS t m).length≤100:=by
 unfold plnS;have h:=q2K 48 [wrapS 160 0 (timeS t),wrapS 160 1 (intS m)];have h1:=q9K 160 0 (timeS t);have h2:=q9K 160 1 (intS m);have h3:(timeS t).length≤20:=by
  unfold timeS;split
  · have:=q2K 24 [numS t 6];have h1:(numS t 6).length=6:=by simp [numS]
    simp only [AL,Bv,Ah] at this;omega
  simp
 have h4:=q5N m;simp only [AL,Bv,Ah,Ad] at h;omega
def mkG(k:Key)(t m:Int)(conf:List UInt8):SV:=if mkOk k t m=true∧conf.length=16 then .tup [.agg [rI 2,.isl .u8 (keyS (k.1,k.2.1,seS k 1 conf (plnS t m)))],rI 0] else .tup [.agg [rI 0,.isl .u8 []],rI 2]
theorem j4j{k:Key}{t m:Int}{conf:List UInt8}(h:conf.length≠16):mkG k t m conf= .tup [.agg [rI 0,.isl .u8 []],rI 2]:=by
 unfold mkG;rw [if_neg (fun h'=>h h'.2)]
theorem z9P(k:Key)(t m:Int)(conf:List UInt8)(ho:KeyT.ok k)(hv:mkOk k t m=true):PC Tryz.prog 10 [.agg (KeyT.cells k),rI t,rI m,.isl .u8 conf] (mkG k t m conf):=by
 have hmk:mkG k t m conf=if conf.length=16 then .tup [.agg [rI 2,.isl .u8 (keyS (k.1,k.2.1,seS k 1 conf (plnS t m)))],rI 0] else .tup [.agg [rI 0,.isl .u8 []],rI 2]:=by unfold mkG;rw [hv];simp
 unfold mkOk at hv;simp only [Am,decide_eq_true_eq] at hv;obtain ⟨h1,h2,h3,h4,h5⟩:=hv;have hu:uOk k (1:Nat)=true:=by unfold uOk;rw [h1];decide
 have hva:=q8Z k ho;have hse:=j2f k 1 conf (plnS t m) ho;have hps:=z7C t m;unfold slO at hse;have hds:=z6G (k.1,k.2.1,seS k 1 conf (plnS t m));rw [h1] at hva;have f2:(t<0)=False:=eq_false (by omega)
 have f3:(1099511627776<t)=False:=eq_false (by omega)
 have f4:(m<0)=False:=eq_false (by omega)
 have f5:(1000000≤m)=False:=eq_false (by omega)
 have hsq:=q7M [wrapS 160 0 (timeS t),wrapS 160 1 (intS m)] (by simp)
 change PC _ _ _ (.isl .u8 (plnS t m)) at hsq;rw [hmk];clear hmk
 by_cases hc:conf.length=16
 · rw [if_pos ⟨hu,hc,by omega⟩] at hse
   rw [if_pos hc];generalize seS k 1 conf (plnS t m)=y at*;generalize plnS t m=pl at*;obtain ⟨p,v,b⟩:=k;dsimp only at*;refine q0q rfl rfl ?_;refine q0V fi10 ?_;refine uQ 600 _ ?_
   with_reducible refine sxE ?_
   refine q0a hva ?_;refine gy4 f2 f3 f4 f5 ?_;refine q0a (j0b t) ?_;refine gQ ?_;refine q0a (q4u 0 (timeS t)) ?_;refine gQ ?_;refine q0a (q3v m) ?_;refine gQ ?_;refine q0a (q4u 1 (intS m)) ?_;refine gQ ?_;refine q0k 2 ?_
   with_reducible refine sxE ?_
   refine q0a hsq ?_;refine gQ ?_;refine q0a hse ?_;refine uQ 600 _ ?_
   with_reducible refine sxE ?_
   refine q0a hds ?_;refine gQ ?_;trivial
 rw [if_neg (fun h=>hc h.2.1)] at hse;rw [if_neg hc];generalize seS k 1 conf (plnS t m)=y at*;generalize plnS t m=pl at*;obtain ⟨p,v,b⟩:=k;dsimp only at*;refine q0i rfl rfl ?_;refine q0V fi10 ?_;refine uQ 600 _ ?_
 with_reducible refine sxE ?_
 refine q0a hva ?_;refine gy4 f2 f3 f4 f5 ?_;refine q0a (j0b t) ?_;refine gQ ?_;refine q0a (q4u 0 (timeS t)) ?_;refine gQ ?_;refine q0a (q3v m) ?_;refine gQ ?_;refine q0a (q4u 1 (intS m)) ?_;refine gQ ?_;refine q0k 2 ?_
 with_reducible refine sxE ?_
 refine q0a hsq ?_;refine gQ ?_;refine q0a hse ?_;refine uQ 600 _ ?_
 with_reducible refine sxE ?_;trivial
theorem z5X(k:Key)(t m:Int)(conf:List UInt8)(ho:KeyT.ok k)(hv:mkOk k t m=false):PC Tryz.prog 10 [.agg (KeyT.cells k),rI t,rI m,.isl .u8 conf] (.tup [.agg [rI 0,.isl .u8 []],rI 2]):=by
 have hva:=q8Z k ho;unfold mkOk at hv;obtain ⟨p,v,b⟩:=k;refine q0i rfl rfl ?_;refine q0V fi10 ?_;refine uQ 600 _ ?_
 with_reducible refine sxE ?_
 refine q0a hva ?_;generalize vKey (p,v,b)=vb at*;cases vb with
 |false=>
  refine uQ 600 _ ?_
  with_reducible refine sxE ?_;trivial
 |true=>
  by_cases c2:t<0
  · have f2:(t<0)=True:=eq_true c2;refine gy1 f2 ?_;trivial
  have f2:(t<0)=False:=eq_false c2
  by_cases c3:1099511627776<t
  · have f3:(1099511627776<t)=True:=eq_true c3;refine gy2 f2 f3 ?_;trivial
  have f3:(1099511627776<t)=False:=eq_false c3
  by_cases c4:m<0
  · have f4:(m<0)=True:=eq_true c4;refine gy3 f2 f3 f4 ?_;trivial
  have f4:(m<0)=False:=eq_false c4
  by_cases c5:1000000≤m
  · have f5:(1000000≤m)=True:=eq_true c5;refine gy4 f2 f3 f4 f5 ?_;trivial
  exfalso;simp at hv;omega
theorem z1W(k:Key)(t m:Int)(conf:List UInt8)(ho:KeyT.ok k):PC Tryz.prog 10 [.agg (KeyT.cells k),rI t,rI m,.isl .u8 conf] (mkG k t m conf):=by
 by_cases hv:mkOk k t m=true
 · exact z9P k t m conf ho hv
 have h:=z5X k t m conf ho (by simpa using hv)
 unfold mkG;rwa [if_neg (fun h'=>hv h'.1)]
def nbP(m:Nat)(P:List UInt8→Except Nat (Int×Nat))(r:List UInt8):Except Nat (Int×Nat):=
 if nextB m r=true then
  if takeE (tagB m) r=0 then
   match P (takeC r) with
   |.error e=>.error e
   |.ok (v,k)=>if k< (takeC r).length then .error 6 else .ok (v,takeN r)
  else .error (takeE (tagB m) r)
 else .error 6
def nbO(b:List UInt8)(n:Nat):Except Nat (Int×Nat)→Out×List SObj
 |.ok (v,k)=>(.ret (.tup [rI v,rI 0]),[rdr b (n+k)])
 |.error e=>(.ret (.tup [rI 0,rI e]),[.dead])
theorem q9C(F:Nat)(P:List UInt8→Except Nat (Int×Nat))(m:Nat)(hm:m≤30)(b:List UInt8)(n:Nat)(hn:n≤b.length)(hb:b.length≤1099511627776)
 (hF:∀c:List UInt8,c.length≤1099511627776→EffR Tryz.prog F [.ptr 0 0] c 0 (fun v:Int=>rI v) (rI 0) (P c))(hfit:∀c v k,P c= .ok (v,k)→k≤c.length)(hne:∀c e,P c= .error e→e≠0):
 PE Tryz.prog 70 [.ptr 0 0,rI m,.fn F [] []] [rdr b n] (nbO b n (nbP m P (b.drop n))).1 (nbO b n (nbP m P (b.drop n))).2:=by
 unfold nbP;cases hx:nextB m (b.drop n) with
 |false=>
  have ht:=z1i m hm b n hn hx;rw [if_neg (by simp)]
  refine q0g (by simp [nbO]) ?_
  refine rQ fi70 ?_;refine eQ [0] (ht) ?_;simp only [nbO]
  with_reducible refine sxE ?_
  rfl
 |true=>
  rw [if_pos rfl]
  by_cases h0:takeE (tagB m) (b.drop n)=0
  · rw [if_pos h0];have ht:=z1G m hm b n hn hb hx h0;have hcl:(takeC (b.drop n)).length≤1099511627776:=q5B hb;generalize takeC (b.drop n)=c at*;generalize takeN (b.drop n)=k0 at*;have hf:=hF c hcl;cases hp:P c with
    |error e=>
     rw [hp] at hf;have he:=hne c e hp;have he':((e:Int)=0)=False:=eq_false (by omega)
     refine q0g (by simp [nbO]) ?_
     refine rQ fi70 ?_;refine eQ [0] (ht) ?_;refine q0j [1] (hf) rfl (by decide) (by repeat first|exact trivial|exact rfl|refine And.intro ?_ ?_) rfl rfl ?_
     simp only [afterO,Out.ren,SV.ren,mgA,sig,SObj.ren,SV.renL,List.set,List.map,Ah,he'];refine gy1 he' ?_;simp only [nbO]
     with_reducible refine sxE ?_;trivial
    |ok x=>
     obtain ⟨v,k⟩:=x;rw [hp] at hf;have hk:=hfit c v k hp;have hen:=z8r c (0+k) (by omega)
     rw [Ac] at hen
     by_cases hlt:k<c.length
     · rw [if_pos hlt] at hen;dsimp only;rw [if_pos hlt];refine q0g (by simp [nbO]) ?_
       refine rQ fi70 ?_;refine eQ [0] (ht) ?_;refine q0j [1] (hf) rfl (by decide) (by repeat first|exact trivial|exact rfl|refine And.intro ?_ ?_) rfl rfl ?_
       simp only [afterO,Out.ren,SV.ren,mgA,sig,SObj.ren,SV.renL,List.set,List.map,Ah,Ac];refine gy1 Ac ?_;refine eQ [1] (hen) ?_;simp only [nbO]
       with_reducible refine sxE ?_
       rfl
     rw [if_neg hlt] at hen;dsimp only;rw [if_neg hlt];refine q0g (by simp [nbO]) ?_
     refine rQ fi70 ?_;refine eQ [0] (ht) ?_;refine q0j [1] (hf) rfl (by decide) (by repeat first|exact trivial|exact rfl|refine And.intro ?_ ?_) rfl rfl ?_
     simp only [afterO,Out.ren,SV.ren,mgA,sig,SObj.ren,SV.renL,List.set,List.map,Ah,Ac];refine gy1 Ac ?_;refine eQ [1] (hen) ?_;simp only [nbO]
     with_reducible refine sxE ?_;trivial
  rw [if_neg h0];have ht:=z1n m hm b n hn hb hx h0;have he':(((takeE (tagB m) (b.drop n):Nat):Int)=0)=False:=eq_false (by omega)
  generalize takeE (tagB m) (b.drop n)=e at*;refine q0g (by simp [nbO]) ?_
  refine rQ fi70 ?_;refine q0j [0] (ht) rfl (by decide) (by repeat first|exact trivial|exact rfl|refine And.intro ?_ ?_) rfl rfl ?_
  simp only [afterO,Out.ren,SV.ren,mgA,sig,SObj.ren,SV.renL,List.set,List.map,Ah,he'];refine gy1 he' ?_;simp only [nbO]
  with_reducible refine sxE ?_;trivial
def timeI(r:List UInt8):Except Nat (Int×Nat):=match timeP r with
 |.ok (v,k)=>.ok ((v:Int),k)
 |.error e=>.error e
theorem z8G(b:List UInt8)(hb:b.length≤1099511627776):EffR Tryz.prog 71 [.ptr 0 0] b 0 (fun v:Int=>rI v) (rI 0) (timeI b):=by
 unfold timeI;cases hx:timeP b with
 |error e=>exact z9r b 0 (Aj _) hb (by rw [AG];exact hx)
 |ok x=>
  obtain ⟨v,k⟩:=x;exact z8P b 0 (Aj _) hb (by rw [AG];exact hx)
theorem z5k(c:List UInt8)(v:Int)(k:Nat)(h:timeI c= .ok (v,k)):k≤c.length:=by
 unfold timeI at h;split at h
 · rename_i h1;cases h;exact q5J _ _ _ h1
 cases h
theorem q9a(c:List UInt8)(e:Nat)(h:timeI c= .error e):e≠0:=by
 unfold timeI at h;split at h
 · cases h
 rename_i h1;cases h;exact q6F h1
theorem z5j{m:Nat}{P:List UInt8→Except Nat (Int×Nat)}{r:List UInt8}{v:Int}{k:Nat}(h:nbP m P r= .ok (v,k)):k≤r.length:=by
 unfold nbP at h;split at h
 · split at h
   · rename_i h0;split at h
     · cases h
     split at h
     · cases h
     cases h;exact q4w h0
   cases h
 cases h
theorem z2A{m:Nat}{P:List UInt8→Except Nat (Int×Nat)}{r:List UInt8}{e:Nat}(hne:∀c e,P c= .error e→e≠0)(h:nbP m P r= .error e):e≠0:=by
 unfold nbP at h;split at h
 · split at h
   · split at h
     · rename_i h1;cases h;exact hne _ _ h1
     split at h
     · cases h;decide
     cases h
   rename_i h0;cases h;exact h0
 cases h;decide
def rdT(p:List UInt8):Except Nat (Int×Int):=
 if takeE 48 p=0 then
  if takeN p<p.length then .error 6
  else match nbP 0 timeI (takeC p) with
   |.error e=>.error e
   |.ok (t,k1)=>match nbP 1 intP ((takeC p).drop k1) with
    |.error e=>.error e
    |.ok (m,k2)=>if k1+k2< (takeC p).length then .error 6 else .ok (t,m)
 else .error (takeE 48 p)
def rdO:Except Nat (Int×Int)→SV
 |.ok (t,m)=>.tup [rI t,rI m,rI 0]
 |.error e=>.tup [rI 0,rI 0,rI e]
theorem j4V(p:List UInt8)(hp:p.length≤1099511627776):PC Tryz.prog 37 [.isl .u8 p] (rdO (rdT p)):=by
 have hnew:=j3G p (by omega)
 have hs0:=z5d p 0 (Aj _) hp;have hs1:=z5R p 0 (Aj _) hp;rw [AG] at hs0 hs1;have hcl:(takeC p).length≤1099511627776:=by have:=q4z p;omega
 have hn0:=q9C 71 timeI 0 (by decide) (takeC p) 0 (Aj _) hcl (fun c hc=>z8G c hc) z5k q9a
 rw [AG] at hn0;unfold rdT
 by_cases h0:takeE 48 p=0
 · have hs:=hs0 h0;have hle:=q4w h0;rw [if_pos h0];rw [Ac] at hs;have hen:=z8r p (takeN p) hle;generalize takeC p=c at*;generalize takeN p=k0 at*
   by_cases hlt:k0<p.length
   · rw [if_pos hlt] at hen;rw [if_pos hlt];refine q0q rfl rfl ?_;refine rQ fi37 ?_;refine eQ [] (hnew) ?_;refine eQ [0] (hs) ?_;refine eQ [0] (hen) ?_;rfl
   rw [if_neg hlt] at hen;rw [if_neg hlt];cases hx:nbP 0 timeI c with
   |error e=>
    rw [hx] at hn0;have he:=z2A q9a hx;have he':((e:Int)=0)=False:=eq_false (by omega)
    simp only [nbO] at hn0;refine q0q rfl rfl ?_;refine rQ fi37 ?_;refine eQ [] (hnew) ?_;refine eQ [0] (hs) ?_;refine eQ [0] (hen) ?_;refine q0j [1] (hn0) rfl (by decide) (by repeat first|exact trivial|exact rfl|refine And.intro ?_ ?_) rfl rfl ?_
    simp only [afterO,Out.ren,SV.ren,mgA,sig,SObj.ren,SV.renL,List.set,List.map,Ah,he'];refine gy1 he' ?_;rfl
   |ok x=>
    obtain ⟨t,k1⟩:=x;have hk1:=z5j hx;rw [hx] at hn0;simp only [nbO] at hn0;rw [Ac] at hn0;have hn1:=q9C 72 intP 1 (by decide) c k1 hk1 hcl (fun c hc=>by have:=j2d c 0 (Aj _) hc;rwa [AG] at this) (fun c v k h=>q5J _ _ _ h) (fun c e h=>q6F h)
    dsimp only;cases hy:nbP 1 intP (c.drop k1) with
    |error e=>
     rw [hy] at hn1;have he:=z2A (fun c e h=>q6F h) hy;have he':((e:Int)=0)=False:=eq_false (by omega)
     simp only [nbO] at hn1;refine q0q rfl rfl ?_;refine rQ fi37 ?_;refine eQ [] (hnew) ?_;refine eQ [0] (hs) ?_;refine eQ [0] (hen) ?_;refine eQ [1] (hn0) ?_;refine q0j [1] (hn1) rfl (by decide) (by repeat first|exact trivial|exact rfl|refine And.intro ?_ ?_) rfl rfl ?_
     simp only [afterO,Out.ren,SV.ren,mgA,sig,SObj.ren,SV.renL,List.set,List.map,Ah,he'];refine gy1 he' ?_;rfl
    |ok y=>
     obtain ⟨m,k2⟩:=y;have hk2:=z5j hy;rw [Al] at hk2;rw [hy] at hn1;simp only [nbO] at hn1;have hen2:=z8r c (k1+k2) (by omega)
     dsimp only
     by_cases hl2:k1+k2<c.length
     · rw [if_pos hl2] at hen2;rw [if_pos hl2];refine q0q rfl rfl ?_;refine rQ fi37 ?_;refine eQ [] (hnew) ?_;refine eQ [0] (hs) ?_;refine eQ [0] (hen) ?_;refine eQ [1] (hn0) ?_;refine eQ [1] (hn1) ?_;refine eQ [1] (hen2) ?_;rfl
     rw [if_neg hl2] at hen2;rw [if_neg hl2];refine q0q rfl rfl ?_;refine rQ fi37 ?_;refine eQ [] (hnew) ?_;refine eQ [0] (hs) ?_;refine eQ [0] (hen) ?_;refine eQ [1] (hn0) ?_;refine eQ [1] (hn1) ?_;refine eQ [1] (hen2) ?_;rfl
 have hs:=hs1 h0;have he':(((takeE 48 p:Nat):Int)=0)=False:=eq_false (by omega)
 rw [if_neg h0];generalize takeE 48 p=e at*;refine q0q rfl rfl ?_;refine rQ fi37 ?_;refine eQ [] (hnew) ?_;refine q0j [0] (hs) rfl (by decide) (by repeat first|exact trivial|exact rfl|refine And.intro ?_ ?_) rfl rfl ?_
 simp only [afterO,Out.ren,SV.ren,mgA,sig,SObj.ren,SV.renL,List.set,List.map,Ah,he'];refine gy1 he' ?_;rfl
theorem z9b:OkP keyP fun k=>k.2.2.length≤1099511627776:=j0l (q9r (Q1:=fun _=>True) z2c fun _ _=>q9r (Q1:=fun _=>True) z2c fun _ _=>q9r (Q1:=fun c=>c.length≤1099511627776) (z8u (j3E fun c v hc hd=>by
 unfold decOct at hd;cases hd
 exact hc)) fun _ hc=>j1i hc)
def argOk(k:Key)(kind now skew:Int):Bool:=vKey k&& (decide (kind=2) && (decide (0≤now) && (decide (now≤1099511627776) && (decide (0≤skew) && decide (skew≤1099511627776)))))
def ckT(t m now skew:Int):Int×Int×Int:=
 if m<0∨1000000≤m then (0,0,3)
 else if skew<mxV true (IntKind.i64.wrap (t-now)) (IntKind.i64.wrap (now-t)) then (0,0,330)
 else (t,m,0)
def ckP(pl:List UInt8)(now skew:Int):Int×Int×Int:=match rdT pl with
 |.error e=>(0,0,(e:Int))
 |.ok (t,m)=>ckT t m now skew
def ckO(x:Int×Int×Int):SV:=.tup [rI x.1,rI x.2.1,rI x.2.2]
def ckG(k:Key)(kind:Int)(b:List UInt8)(now skew:Int):Int×Int×Int:=
 if argOk k kind now skew=true then match keyP b with
  |.error e=>(0,0,(e:Int))
  |.ok (s,n)=>if n<b.length then (0,0,5)
   else if (opS k 1 s.1 s.2.1 s.2.2).2=0 then ckP (opS k 1 s.1 s.2.1 s.2.2).1 now skew
   else (0,0,(opS k 1 s.1 s.2.1 s.2.2).2)
 else (0,0,2)
theorem j1F(k:Key)(u:Nat)(sp sv:Int)(sb:List UInt8):(opS k u sp sv sb).1.length≤sb.length:=by
 unfold opS;split
 · rename_i hu;have hf:=q2N hu;split
   · split
     · exact Aj _
     split
     · exact Aj _
     split
     · rename_i h1 _ _;dsimp only;have hl:(sb.take (sb.length-k.2.2.length)).length=sb.length-k.2.2.length:=by rw [Ak];omega
       unfold unS;split
       · rw [Al,q8j _ _ _ rfl (by omega)];omega
       rw [q2Z,Al];omega
     exact Aj _
   exact Aj _
 exact Aj _
theorem j4f{p:List UInt8}{e:Nat}(h:rdT p= .error e):e≠0:=by
 unfold rdT at h;split at h
 · split at h
   · cases h;decide
   split at h
   · rename_i h1;cases h;exact z2A q9a h1
   split at h
   · rename_i h1;cases h;exact z2A (fun c e h=>q6F h) h1
   split at h
   · cases h;decide
   cases h
 rename_i h0;cases h;exact h0
theorem z7Q(k:Key)(kind:Int)(b:List UInt8)(now skew:Int)(ho:KeyT.ok k)(ha:argOk k kind now skew=false):PC Tryz.prog 14 [.agg (KeyT.cells k),.agg [rI kind,.isl .u8 b],rI now,rI skew] (ckO (0,0,2)):=by
 have hva:=q8Z k ho;unfold argOk at ha;obtain ⟨p,v,kb⟩:=k;refine q0q rfl rfl ?_;refine q0V fi14 ?_;refine uQ 600 _ ?_
 with_reducible refine sxE ?_
 refine q0a hva ?_;generalize vKey (p,v,kb)=vb at*;cases vb with
 |false=>
  refine uQ 600 _ ?_
  with_reducible refine sxE ?_
  rfl
 |true=>
  by_cases c1:kind=2
  · have f1:(kind=2)=True:=eq_true c1
    by_cases c2:now<0
    · have f2:(now<0)=True:=eq_true c2;refine gy2 f1 f2 ?_;rfl
    have f2:(now<0)=False:=eq_false c2
    by_cases c3:1099511627776<now
    · have f3:(1099511627776<now)=True:=eq_true c3;refine gy3 f1 f2 f3 ?_;rfl
    have f3:(1099511627776<now)=False:=eq_false c3
    by_cases c4:skew<0
    · have f4:(skew<0)=True:=eq_true c4;refine gy4 f1 f2 f3 f4 ?_;rfl
    have f4:(skew<0)=False:=eq_false c4
    by_cases c5:1099511627776<skew
    · have f5:(1099511627776<skew)=True:=eq_true c5;refine gy5 f1 f2 f3 f4 f5 ?_;rfl
    exfalso;simp [c1] at ha;omega
  have f1:(kind=2)=False:=eq_false c1;refine gy1 f1 ?_;rfl
theorem z2G(k:Key)(kind:Int)(b:List UInt8)(now skew:Int)(hko:KeyT.ok k)(hb:b.length≤1048576):PC Tryz.prog 14 [.agg (KeyT.cells k),.agg [rI kind,.isl .u8 b],rI now,rI skew] (ckO (ckG k kind b now skew)):=by
 unfold ckG;cases ha:argOk k kind now skew with
 |false=>
  rw [if_neg (by simp)]
  exact z7Q _ kind b now skew hko ha
 |true=>
  rw [if_pos rfl];have hva:=q8Z k hko;unfold argOk at ha;simp only [Am,decide_eq_true_eq] at ha;obtain ⟨a0,rfl,a2,a3,a4,a5⟩:=ha;rw [a0] at hva;have f2:(now<0)=False:=eq_false (by omega)
  have f3:(1099511627776<now)=False:=eq_false (by omega)
  have f4:(skew<0)=False:=eq_false (by omega)
  have f5:(1099511627776<skew)=False:=eq_false (by omega)
  have hnew:=j3G b (by omega)
  have hsl:=z8z b 0 (Aj _) (by omega)
  rw [AG] at hsl;cases hx:keyP b with
  |error e=>
   have he:=j1Q b e hx;have he':((e:Int)=0)=False:=eq_false (by omega)
   rw [hx] at hsl;have hs1:=z7B hsl rfl;obtain ⟨p,v,kb⟩:=k;refine q0q rfl rfl ?_;refine q0V fi14 ?_;refine uQ 600 _ ?_
   with_reducible refine sxE ?_
   refine q0a hva ?_;refine gy4 f2 f3 f4 f5 ?_;refine eQ [] (hnew) ?_;refine q0j [2] (hs1) rfl (by decide) (by repeat first|exact trivial|exact rfl|refine And.intro ?_ ?_) rfl rfl ?_
   simp only [afterO,Out.ren,SV.ren,mgA,sig,SObj.ren,SV.renL,List.set,List.map,Ah,he'];refine gy1 he' ?_;rfl
  |ok x=>
   obtain ⟨⟨sp,sv,sb⟩,n⟩:=x;have hsb:sb.length≤1099511627776:=z9b b _ _ (by omega) hx
   have hn:n≤b.length:=z2T _ _ _ hx;rw [hx] at hsl;have hs1:=z4w hsl rfl;rw [Ac] at hs1;have hen:=z8r b n hn;dsimp only
   by_cases hlt:n<b.length
   · rw [if_pos hlt] at hen;rw [if_pos hlt];obtain ⟨p,v,kb⟩:=k;refine q0q rfl rfl ?_;refine q0V fi14 ?_;refine uQ 600 _ ?_
     with_reducible refine sxE ?_
     refine q0a hva ?_;refine gy4 f2 f3 f4 f5 ?_;refine eQ [] (hnew) ?_;refine eQ [2] (hs1) ?_;refine eQ [2] (hen) ?_;rfl
   rw [if_neg hlt] at hen;rw [if_neg hlt];have hop:=j0K k 1 sp sv sb hko hsb;have hol:=j1F k 1 sp sv sb;change PC _ _ _ (ckO (if (opS k 1 sp sv sb).2=0 then ckP (opS k 1 sp sv sb).1 now skew else (0,0,(opS k 1 sp sv sb).2)));generalize opS k 1 sp sv sb=r at*;obtain ⟨pl,e⟩:=r;dsimp only at hop hol⊢
   by_cases h0:e=0
   · subst h0;rw [if_pos rfl];have hrd:=j4V pl (by omega)
     unfold ckP;cases hy:rdT pl with
     |error e2=>
      have he:=j4f hy;have he':((e2:Int)=0)=False:=eq_false (by omega)
      rw [hy] at hrd;simp only [rdO] at hrd;obtain ⟨p,v,kb⟩:=k;refine q0q rfl rfl ?_;refine q0V fi14 ?_;refine uQ 600 _ ?_
      with_reducible refine sxE ?_
      refine q0a hva ?_;refine gy4 f2 f3 f4 f5 ?_;refine eQ [] (hnew) ?_;refine eQ [2] (hs1) ?_;refine eQ [2] (hen) ?_;refine q0a hop ?_;refine gQ ?_;refine q0a hrd ?_;refine gy1 he' ?_;rfl
     |ok y=>
      obtain ⟨t,m⟩:=y;rw [hy] at hrd;simp only [rdO] at hrd;dsimp only;unfold ckT
      by_cases c1:m<0
      · have g1:(m<0)=True:=eq_true c1;rw [if_pos (.inl c1)];obtain ⟨p,v,kb⟩:=k;refine q0q rfl rfl ?_;refine q0V fi14 ?_;refine uQ 600 _ ?_
        with_reducible refine sxE ?_
        refine q0a hva ?_;refine gy4 f2 f3 f4 f5 ?_;refine eQ [] (hnew) ?_;refine eQ [2] (hs1) ?_;refine eQ [2] (hen) ?_;refine q0a hop ?_;refine gQ ?_;refine q0a hrd ?_;refine gy1 g1 ?_;rfl
      have g1:(m<0)=False:=eq_false c1
      by_cases c2:1000000≤m
      · have g2:(1000000≤m)=True:=eq_true c2;rw [if_pos (.inr c2)];obtain ⟨p,v,kb⟩:=k;refine q0q rfl rfl ?_;refine q0V fi14 ?_;refine uQ 600 _ ?_
        with_reducible refine sxE ?_
        refine q0a hva ?_;refine gy4 f2 f3 f4 f5 ?_;refine eQ [] (hnew) ?_;refine eQ [2] (hs1) ?_;refine eQ [2] (hen) ?_;refine q0a hop ?_;refine gQ ?_;refine q0a hrd ?_;refine gy2 g1 g2 ?_;rfl
      have g2:(1000000≤m)=False:=eq_false c2;rw [if_neg (by rintro (h|h) <;>contradiction)]
      by_cases c3:skew<mxV true (IntKind.i64.wrap (t-now)) (IntKind.i64.wrap (now-t))
      · have g3:(skew<mxV true (IntKind.i64.wrap (t-now)) (IntKind.i64.wrap (now-t)))=True:=eq_true c3;rw [if_pos c3];obtain ⟨p,v,kb⟩:=k;refine q0q rfl rfl ?_;refine q0V fi14 ?_;refine uQ 600 _ ?_
        with_reducible refine sxE ?_
        refine q0a hva ?_;refine gy4 f2 f3 f4 f5 ?_;refine eQ [] (hnew) ?_;refine eQ [2] (hs1) ?_;refine eQ [2] (hen) ?_;refine q0a hop ?_;refine gQ ?_;refine q0a hrd ?_;refine gy3 g1 g2 g3 ?_;rfl
      have g3:(skew<mxV true (IntKind.i64.wrap (t-now)) (IntKind.i64.wrap (now-t)))=False:=eq_false c3;rw [if_neg c3];obtain ⟨p,v,kb⟩:=k;refine q0q rfl rfl ?_;refine q0V fi14 ?_;refine uQ 600 _ ?_
      with_reducible refine sxE ?_
      refine q0a hva ?_;refine gy4 f2 f3 f4 f5 ?_;refine eQ [] (hnew) ?_;refine eQ [2] (hs1) ?_;refine eQ [2] (hen) ?_;refine q0a hop ?_;refine gQ ?_;refine q0a hrd ?_;refine gy3 g1 g2 g3 ?_;rfl
   rw [if_neg h0];have h0':(e=0)=False:=eq_false h0;obtain ⟨p,v,kb⟩:=k;refine q0q rfl rfl ?_;refine q0V fi14 ?_;refine uQ 600 _ ?_
   with_reducible refine sxE ?_
   refine q0a hva ?_;refine gy4 f2 f3 f4 f5 ?_;refine eQ [] (hnew) ?_;refine eQ [2] (hs1) ?_;refine eQ [2] (hen) ?_;refine q0a hop ?_;refine gy1 h0' ?_;rfl
def forceN{α:Type}(x:Nat)(f:Nat→α):α:=match x with
 |0=>f 0
 |n+1=>f (n+1)
theorem q1E{α:Type}(x:Nat)(f:Nat→α):forceN x f=f x:=by cases x<;>rfl
def rotN(n x:Nat):Nat:=x / 2^ n+x*2^ (32-n)%4294967296
def sg0N(x:Nat):Nat:=(rotN 7 x^^^ rotN 18 x) ^^^ (x / 8)
def sg1N(x:Nat):Nat:=(rotN 17 x^^^ rotN 19 x) ^^^ (x / 1024)
def bs0N(x:Nat):Nat:=(rotN 2 x^^^ rotN 13 x) ^^^ rotN 22 x
def bs1N(x:Nat):Nat:=(rotN 6 x^^^ rotN 11 x) ^^^ rotN 25 x
def chN(e f g:Nat):Nat:=(e&&& f) ^^^ ((4294967295-e) &&& g)
def majN(a b c:Nat):Nat:=((a&&& b) ^^^ (a&&& c)) ^^^ (b&&& c)
theorem q3W(n x:Nat):rotW n (x:Int)=(rotN n x:Int):=by
 unfold rotW rotN;simp
theorem q3o(a b:Nat):xorW (a:Int) (b:Int)=((a^^^ b:Nat):Int):=by simp [xorW]
theorem z0E(a b:Nat):andW (a:Int) (b:Int)=((a&&& b:Nat):Int):=by simp [andW]
theorem j5g(x:Nat):sg0 (x:Int)=(sg0N x:Int):=by
 unfold sg0 sg0N;rw [q3W,q3W,q3o,show ((x:Int) / 8)=((x / 8:Nat):Int) by simp,q3o]
theorem j5k(x:Nat):sg1 (x:Int)=(sg1N x:Int):=by
 unfold sg1 sg1N;rw [q3W,q3W,q3o,show ((x:Int) / 1024)=((x / 1024:Nat):Int) by simp,q3o]
theorem j5f(x:Nat):bs0 (x:Int)=(bs0N x:Int):=by
 unfold bs0 bs0N;rw [q3W,q3W,q3W,q3o,q3o]
theorem j5l(x:Nat):bs1 (x:Int)=(bs1N x:Int):=by
 unfold bs1 bs1N;rw [q3W,q3W,q3W,q3o,q3o]
theorem j5h{e f g:Nat}(he:e≤4294967295):chW (e:Int) (f:Int) (g:Int)=(chN e f g:Int):=by
 unfold chW chN;rw [show (4294967295- (e:Int))=((4294967295-e:Nat):Int) by omega,z0E,z0E,q3o]
theorem j3U(a b c:Nat):majW (a:Int) (b:Int) (c:Int)=(majN a b c:Int):=by
 unfold majW majN;rw [z0E,z0E,z0E,q3o,q3o]
def schedN:Nat→List Nat→List Nat
 |0,l=>l
 |n+1,l=>forceN ((sg1N (l.getD 1 0)+l.getD 6 0+sg0N (l.getD 14 0)+l.getD 15 0)%4294967296) fun w=>schedN n (w :: l)
def wN(b:List UInt8)(t:Nat):Nat:=(wS b t).toNat
theorem q4f(b:List UInt8)(t:Nat):((wN b t:Nat):Int)=wS b t:=by
 have:=q1T b t;unfold wN;omega
def wsR(b:List UInt8):Nat→List Nat
 |0=>[]
 |t+1=>wN b t :: wsR b t
theorem q6H(b:List UInt8):∀ {t i:Nat},i<t→(wsR b t).getD i 0=wN b (t-1-i)
 |t+1,0,_=>rfl
 |t+1,i+1,h=>by
  show (wsR b t).getD i 0=_;rw [q6H b (by omega)]
  congr 1;omega
theorem z3o(b:List UInt8):∀ (n t:Nat),16≤t→schedN n (wsR b t)=wsR b (t+n)
 |0,t,_=>rfl
 |n+1,t,h=>by
  rw [schedN,q1E,q6H b (by omega),q6H b (by omega),q6H b (by omega),q6H b (by omega)]
  have e:(sg1N (wN b (t-1-1))+wN b (t-1-6)+sg0N (wN b (t-1-14))+wN b (t-1-15))%4294967296=wN b t:=by
   have h1:=z0r (b:=b) h;rw [←q4f,←q4f,←q4f,←q4f,←q4f,j5k,j5g] at h1;rw [show t-1-1=t-2 by omega,show t-1-6=t-7 by omega,show t-1-14=t-15 by omega,show t-1-15=t-16 by omega]
   unfold W32 at h1;omega
  rw [e];have:=z3o b n (t+1) (by omega)
  rw [show t+1+n=t+ (n+1) by omega] at this
  exact this
def rndN:List Nat→List Nat→Nat→Nat→Nat→Nat→Nat→Nat→Nat→Nat→List Nat
 |k :: ks,w :: ws,a,b,c,d,e,f,g,h=>
  forceN (h+bs1N e+chN e f g+k+w) fun t1=>forceN ((t1+ (bs0N a+majN a b c))%4294967296) fun a'=>forceN ((d+t1)%4294967296) fun e'=>rndN ks ws a' a b c e' e f g
 |_,_,a,b,c,d,e,f,g,h=>[a,b,c,d,e,f,g,h]
def cast8(l:List Nat):List Int:=l.map fun (n:Nat)=>(n:Int)
theorem j5i{k w a b c d e f g h:Nat}(he:e≤4294967295):rnd (k:Int) (w:Int) (cast8 [a,b,c,d,e,f,g,h])=cast8 [(h+bs1N e+chN e f g+k+w+ (bs0N a+majN a b c))%4294967296,a,b,c,(d+ (h+bs1N e+chN e f g+k+w))%4294967296,e,f,g]:=by
 have h1:t1S (k:Int) (w:Int) (cast8 [a,b,c,d,e,f,g,h])=((h+bs1N e+chN e f g+k+w:Nat):Int):=by
  show (h:Int)+bs1 (e:Int)+chW (e:Int) (f:Int) (g:Int)+k+w=_;rw [j5l,j5h he];omega
 have h2:t2S (cast8 [a,b,c,d,e,f,g,h])=((bs0N a+majN a b c:Nat):Int):=by
  show bs0 (a:Int)+majW (a:Int) (b:Int) (c:Int)=_;rw [j5f,j3U];omega
 unfold rnd;rw [h1,h2];simp only [cast8,AN,Ct,List.getD_cons_zero,List.getD_cons_succ];unfold W32;congr 1
def kN(t:Nat):Nat:=(kS t).toNat
theorem j1C{t:Nat}(h:t<64):((kN t:Nat):Int)=kS t:=by
 have:=j4O t h;unfold kN;omega
theorem z5M(b:List UInt8)(h:List Int):∀ (n t:Nat) (a b' c d e f g h':Nat),e≤4294967295→t+n≤64→rnds b h t=cast8 [a,b',c,d,e,f,g,h']→
 rnds b h (t+n)=cast8 (rndN ((List.range' t n).map kN) ((List.range' t n).map (wN b)) a b' c d e f g h')
 |0,t,a,b',c,d,e,f,g,h',he,ht,hr=>hr
 |n+1,t,a,b',c,d,e,f,g,h',he,ht,hr=>by
  rw [List.range'_succ,AN,AN,rndN,q1E,q1E,q1E];have h1:rnds b h (t+1)=rnd (kS t) (wS b t) (rnds b h t):=rfl;rw [hr,←j1C (by omega),←q4f,j5i he] at h1
  have:=z5M b h n (t+1) _ _ _ _ _ _ _ _ (by omega) (by omega) h1
  rw [show t+1+n=t+ (n+1) by omega] at this
  exact this
def kList:List Nat:=dat_ref04_constants.map Int.toNat
theorem z9w:(List.range' 0 64).map kN=kList:=by decide
theorem z7v(b:List UInt8):∀t,(wsR b t).reverse=(List.range t).map (wN b)
 |0=>rfl
 |t+1=>by rw [wsR,List.reverse_cons,z7v b t,BE,Bh];rfl
def wbN(b:List UInt8)(t:Nat):Nat:=256* (256* (256* (b.getD (4*t) 0).toNat+ (b.getD (4*t+1) 0).toNat)+ (b.getD (4*t+2) 0).toNat)+ (b.getD (4*t+3) 0).toNat
theorem j4I(b:List UInt8){t:Nat}(h:t<16):wbN b t=wN b t:=by
 have h1:=q4f b t;rw [z0p h] at h1;simp only [wdP,byI,AM] at h1;unfold wbN;omega
def wbR(b:List UInt8):Nat→List Nat→List Nat
 |0,l=>l
 |n+1,l=>forceN (wbN b (15-n)) fun w=>wbR b n (w :: l)
theorem j0x(b:List UInt8):∀n,n≤16→wbR b n (wsR b (16-n))=wsR b 16
 |0,_=>rfl
 |n+1,h=>by
  rw [wbR,q1E,j4I b (by omega)]
  have:=j0x b n (by omega)
  rw [show 16-n=(15-n)+1 by omega] at this
  rw [show 16- (n+1)=15-n by omega]
  exact this
def blkE(a b c d e f g h:Nat):List Nat→List Nat
 | [x0,x1,x2,x3,x4,x5,x6,x7]=>[(a+x0)%4294967296,(b+x1)%4294967296,(c+x2)%4294967296,(d+x3)%4294967296,(e+x4)%4294967296,(f+x5)%4294967296,(g+x6)%4294967296,(h+x7)%4294967296]
 |_=>[]
def blkN(bl:List UInt8)(a b c d e f g h:Nat):List Nat:=blkE a b c d e f g h (rndN kList (schedN 48 (wbR bl 16 [])).reverse a b c d e f g h)
def blkF(bl:List UInt8):List Nat→List Nat
 | [a,b,c,d,e,f,g,h]=>forceN a fun a=>forceN b fun b=>forceN c fun c=>forceN d fun d=>forceN e fun e=>forceN f fun f=>forceN g fun g=>forceN h fun h=>blkN bl a b c d e f g h
 |_=>[]
theorem z4X(bl:List UInt8)(a b c d e f g h:Nat):blkF bl [a,b,c,d,e,f,g,h]=blkN bl a b c d e f g h:=by
 simp only [blkF,q1E]
theorem j1N(a b c d e f g h:Nat){r:List Nat}(hr:r.length=8):(blkE a b c d e f g h r).length=8∧∀x∈blkE a b c d e f g h r,x≤4294967295:=by
 match r,hr with
 | [x0,x1,x2,x3,x4,x5,x6,x7],_=>
  refine ⟨rfl,fun x hm=> ?_⟩;simp only [blkE,Bq,Cl,or_false] at hm;rcases hm with rfl|rfl|rfl|rfl|rfl|rfl|rfl|rfl<;>omega
theorem j2z(a b c d e f g h:Nat){r:List Nat}(hr:r.length=8):((List.range 8).map fun i=>((cast8 [a,b,c,d,e,f,g,h]).getD i 0+ (cast8 r).getD i 0)%W32)=cast8 (blkE a b c d e f g h r):=by
 match r,hr with
 | [x0,x1,x2,x3,x4,x5,x6,x7],_=>simp [cast8,blkE,BE,W32]
theorem q9q:∀ (ks ws:List Nat) (a b c d e f g h:Nat),(rndN ks ws a b c d e f g h).length=8
 | [],_,a,b,c,d,e,f,g,h=>by unfold rndN;rfl
 |_ :: _,[],a,b,c,d,e,f,g,h=>by unfold rndN;rfl
 |k :: ks,w :: ws,a,b,c,d,e,f,g,h=>by
  rw [rndN,q1E,q1E,q1E];exact q9q ks ws _ _ _ _ _ _ _ _
theorem j3r(bl:List UInt8):(List.range' 0 64).map (wN bl)=(schedN 48 (wbR bl 16 [])).reverse:=by
 have h1:wbR bl 16 []=wsR bl 16:=j0x bl 16 (by decide)
 rw [h1,z3o bl 48 16 (by decide),z7v,List.range_eq_range']
theorem j3x(bl:List UInt8){a b c d e f g h:Nat}(he:e≤4294967295):blkS bl (cast8 [a,b,c,d,e,f,g,h])=cast8 (blkF bl [a,b,c,d,e,f,g,h]):=by
 have h1:=z5M bl (cast8 [a,b,c,d,e,f,g,h]) 64 0 a b c d e f g h he (by decide) rfl
 rw [z9w,j3r] at h1;rw [z4X];unfold blkN blkS;have h2:=q9q kList (schedN 48 (wbR bl 16 [])).reverse a b c d e f g h;generalize rndN kList (schedN 48 (wbR bl 16 [])).reverse a b c d e f g h=r at*;rw [Ac] at h1;rw [h1];exact j2z a b c d e f g h h2
def hashF(p:List UInt8):Nat→List Nat
 |0=>[0x6a09e667,0xbb67ae85,0x3c6ef372,0xa54ff53a,0x510e527f,0x9b05688c,0x1f83d9ab,0x5be0cd19]
 |k+1=>blkF ((p.take (64*k+64)).drop (64*k)) (hashF p k)
theorem j2E(bl:List UInt8){l:List Nat}(h:l.length=8):(blkF bl l).length=8∧∀x∈blkF bl l,x≤4294967295:=by
 match l,h with
 | [a,b,c,d,e,f,g,h],_=>
  rw [z4X];exact j1N a b c d e f g h (q9q _ _ _ _ _ _ _ _ _ _)
theorem z2L(p:List UInt8):∀k,(hashF p k).length=8∧∀x∈hashF p k,x≤4294967295
 |0=>⟨rfl,fun x hx=>by simp [hashF] at hx;omega⟩
 |k+1=>j2E _ (z2L p k).1
theorem z2v(p:List UInt8):∀k,hashS p k=cast8 (hashF p k)
 |0=>rfl
 |k+1=>by
  rw [hashS,z2v p k,hashF];have h:=z2L p k;generalize hashF p k=l at*
  match l,h with
  | [a,b,c,d,e,f,g,h'],⟨_,h2⟩=>exact j3x _ (h2 e (by simp))
def wordF(l:List Nat)(i:Nat):UInt8:=UInt8.ofNat ((l.getD (i / 4) 0) / 2^ (24-8* (i%4))%256)
def shaF(b:List UInt8):List UInt8:=(List.range 32).map (wordF (hashF (padS b) (blksN b)))
theorem z7a(b:List UInt8):shaS b=shaF b:=by
 unfold shaS shaF bytesS;rw [z2v];apply Bg;intro i hi;have key:∀ (l:List Nat) (j:Nat),((cast8 l).getD j 0).toNat=l.getD j 0:=fun l j=>by
  unfold cast8;rw [Ab,Ab,AF];cases l[j]?<;>rfl
 unfold wordB wordF;rw [key]
def hmF(k b:List UInt8):List UInt8:=shaF (hkS k 92++shaF (hkS k 54++b))
theorem z2p(k b:List UInt8):hmS k b=hmF k b:=by
 unfold hmS hmF;rw [z7a,z7a]
theorem dk32{p v:Int}{b:List UInt8}(u use:Nat)(hb:b.length=32):dkS (p,v,b) u use=hmF b (four 1++(four u++ [UInt8.ofNat use])++ [0]++ []++four 256):=by
 rw [←z2p];show kdfS b (four u++ [UInt8.ofNat use]) [] b.length=_;rw [hb];show (kacc b (four u++ [UInt8.ofNat use]) [] 32 1).take 32=_;have h:kacc b (four u++ [UInt8.ofNat use]) [] 32 1=kblk b (four u++ [UInt8.ofNat use]) [] 32 1:=AJ _;rw [h,Aa (by rw [q3K];decide)]
 rfl
def k32(c:UInt8):List UInt8:=List.replicate 32 c
theorem q1H(c:UInt8):(k32 c).length=32:=Bw
def conf16:List UInt8:=List.replicate 16 2
def pln0:List UInt8:=[48,15,160,8,24,6,0,0,0,0,3,232,161,3,2,1,5]
def dEnc:List UInt8:=[39,63,9,154,12,104,197,249,171,54,241,186,242,220,77,25,64,229,80,42,136,174,233,14,165,132,253,146,115,252,52,112]
def dMac:List UInt8:=[146,9,198,93,59,59,11,126,27,87,174,232,9,28,34,130,179,159,8,203,137,70,209,184,101,246,89,22,6,37,137,194]
def dMac3:List UInt8:=[47,87,18,41,60,122,86,67,172,113,227,135,41,56,32,165,204,72,30,67,94,67,96,54,211,146,89,73,61,145,188,135]
def strm:List UInt8:=[181,132,243,161,178,63,11,59,63,54,240,1,150,6,62,120,173,156,250,119,212,83,35,28,47,27,169,124,5,161,141,201]
def ci0:List UInt8:=[2,2,2,2,2,2,2,2,2,2,2,2,2,2,2,2,133,139,83,169,170,57,11,59,63,54,243,233,55,5,60,121,168]
def tag0:List UInt8:=[97,84,42,170,240,106,49,93,238,87,23,236,63,108,25,12,39,164,210,237,73,164,106,39,4,214,196,107,187,15,140,181]
def tag3:List UInt8:=[110,34,77,85,20,15,213,64,236,17,250,5,32,140,111,98,53,3,241,143,27,169,103,40,136,186,13,26,116,159,33,145]
theorem z5r:plnS 1000 5=pln0:=by kernel_rfl
theorem z1M(v:Int):dkS (2,v,k32 1) 1 170=dEnc:=by
 rw [dk32 1 170 (q1H 1)]
 kernel_rfl
theorem z1P(v:Int):dkS (2,v,k32 1) 1 85=dMac:=by
 rw [dk32 1 85 (q1H 1)]
 kernel_rfl
theorem z9L(v:Int):dkS (2,v,k32 3) 1 85=dMac3:=by
 rw [dk32 1 85 (q1H 3)]
 kernel_rfl
theorem j0M:hmS dEnc (conf16++four 1)=strm:=by
 rw [z2p]
 kernel_rfl
theorem z1o:hmS dMac ci0=tag0:=by
 rw [z2p]
 kernel_rfl
theorem j3j:hmS dMac3 ci0=tag3:=by
 rw [z2p]
 kernel_rfl
theorem j0k(v:Int):ciS2 (2,v,k32 1) 1 conf16 (plnS 1000 5)=ci0:=by
 unfold ciS2;rw [z1M,z5r];have h:ksS dEnc conf16 pln0=(List.range 17).map fun i=>pln0.getD i 0^^^ strm.getD i 0:=by
  show (List.range 17).map (ksB dEnc conf16 pln0)=_;apply Bg;intro i hi;have hi':i<17:=Bz.1 hi;unfold ksB;rw [show i / 32+1=1 by omega,j0M,show i%32=i by omega]
 have h4:conf16++((List.range 17).map fun i=>pln0.getD i 0^^^ strm.getD i 0)=ci0:=by kernel_rfl
 rw [h,h4]
theorem j3z(v:Int):seS2 (2,v,k32 1) 1 conf16 (plnS 1000 5)=ci0++tag0:=by
 unfold seS2;rw [j0k,z1P,z1o]
def el0:List UInt8:=keyS (2,3,ci0++tag0)
theorem q5d:el0.length=81:=by kernel_rfl
theorem q6X:keyP el0= .ok ((2,3,ci0++tag0),81):=by kernel_rfl
theorem op0(v:Int)(hv:v=3):opS (2,v,k32 1) 1 2 3 (ci0++tag0)=(pln0,0):=by
 subst hv;rw [q8h];unfold opS2;rw [if_pos (by decide),if_pos (by decide),if_neg (by decide),if_neg (by decide)]
 have e1:(ci0++tag0).take ((ci0++tag0).length-32)=ci0:=by kernel_rfl
 have e2:(ci0++tag0).drop ((ci0++tag0).length-32)=tag0:=by kernel_rfl
 rw [e1,e2,z1P,z1o,if_pos rfl,z1M];have h:ksS dEnc (ci0.take 16) (ci0.drop 16)=pln0:=by
  have h1:=j0k 3;unfold ciS2 at h1;rw [z1M,z5r] at h1;have h2:ci0.take 16=conf16:=by kernel_rfl
  have h3:ci0.drop 16=ksS dEnc conf16 pln0:=by
   rw [←h1];exact List.drop_left' rfl
  rw [h2,h3];exact j0P dEnc conf16 pln0
 rw [h]
theorem op3:opS (2,3,k32 3) 1 2 3 (ci0++tag0)=([],10):=by
 rw [q8h];unfold opS2;rw [if_pos (by decide),if_pos (by decide),if_neg (by decide),if_neg (by decide)]
 have e1:(ci0++tag0).take ((ci0++tag0).length-32)=ci0:=by kernel_rfl
 have e2:(ci0++tag0).drop ((ci0++tag0).length-32)=tag0:=by kernel_rfl
 rw [e1,e2,z9L,j3j,if_neg (by decide)]
theorem rd0:rdT pln0= .ok (1000,5):=by kernel_rfl
theorem z4n{k:Key}{now skew:Int}{b:List UInt8}{s:Key}{n:Nat}(ha:argOk k 2 now skew=true)(hk:keyP b= .ok (s,n))(hn:¬n<b.length):ckG k 2 b now skew=if (opS k 1 s.1 s.2.1 s.2.2).2=0 then ckP (opS k 1 s.1 s.2.1 s.2.2).1 now skew else (0,0,(opS k 1 s.1 s.2.1 s.2.2).2):=by
 unfold ckG;rw [if_pos ha,hk];dsimp only;rw [if_neg hn]
theorem ck1:ckG (2,3,k32 1) 2 el0 1300 300=(1000,5,0):=by
 rw [z4n (by decide) q6X (by rw [q5d];decide)]
 dsimp only;rw [op0 3 rfl,if_pos rfl];unfold ckP;rw [rd0];decide
theorem ck2:ckG (2,3,k32 1) 2 el0 1301 300=(0,0,330):=by
 rw [z4n (by decide) q6X (by rw [q5d];decide)]
 dsimp only;rw [op0 3 rfl,if_pos rfl];unfold ckP;rw [rd0];decide
theorem ck3:ckG (2,3,k32 1) 2 el0 1000 (-1)=(0,0,2):=by
 unfold ckG;rw [if_neg (by decide)]
theorem ck4:ckG (2,3,k32 1) 2 el0 1000 0=(1000,5,0):=by
 rw [z4n (by decide) q6X (by rw [q5d];decide)]
 dsimp only;rw [op0 3 rfl,if_pos rfl];unfold ckP;rw [rd0];decide
theorem ck5:ckG (2,3,k32 3) 2 el0 1000 0=(0,0,10):=by
 rw [z4n (by decide) q6X (by rw [q5d];decide)]
 dsimp only;rw [op3,if_neg (by decide)]
theorem ck6:ckG (2,4,k32 1) 2 el0 1000 0=(0,0,9):=by
 rw [z4n (by decide) q6X (by rw [q5d];decide)]
 dsimp only;have h:opS (2,4,k32 1) 1 2 3 (ci0++tag0)=([],9):=by
  rw [q8h];unfold opS2;rw [if_pos (by decide),if_neg (by decide)]
 rw [h,if_neg (by decide)]
def elX:List UInt8:=el0.set 80 (el0.getD 80 0+1)
def tagX:List UInt8:=tag0.set 31 (tag0.getD 31 0+1)
theorem j3o:keyP elX= .ok ((2,3,ci0++tagX),81):=by kernel_rfl
theorem z1T:elX.length=81:=by kernel_rfl
theorem ck7:ckG (2,3,k32 1) 2 elX 1000 0=(0,0,10):=by
 rw [z4n (by decide) j3o (by rw [z1T];decide)]
 dsimp only;have h:opS (2,3,k32 1) 1 2 3 (ci0++tagX)=([],10):=by
  rw [q8h];unfold opS2;rw [if_pos (by decide),if_pos (by decide),if_neg (by decide),if_neg (by decide)]
  have e1:(ci0++tagX).take ((ci0++tagX).length-32)=ci0:=by kernel_rfl
  have e2:(ci0++tagX).drop ((ci0++tagX).length-32)=tagX:=by kernel_rfl
  rw [e1,e2,z1P,z1o,if_neg (by decide)]
 rw [h,if_neg (by decide)]
theorem j1m:keyP (el0.take 80)= .error 4:=by kernel_rfl
theorem ck8:ckG (2,3,k32 1) 2 (el0.take 80) 1000 0=(0,0,4):=by
 unfold ckG;rw [if_pos (by decide),j1m]
 rfl
theorem z2V(n:Int):PC Tryz.prog 13 [rI n] (rI n):=by
 refine q0q rfl rfl ?_;refine rQ fi13 ?_;trivial
def kfP(c:UInt8)(i:Nat):List UInt8:=List.replicate i c++List.replicate (32-i) 0
theorem j1x(c:UInt8){i:Nat}(hi:i≤32):(kfP c i).length=32:=by simp [kfP];omega
theorem j1E(c:UInt8){i:Nat}(hi:i<32):(kfP c i).set i c=kfP c (i+1):=by
 unfold kfP;rw [Cj _ _ (by simp)]
 simp only [Bw,Nat.sub_self];rw [show 32-i=(32- (i+1))+1 by omega,BL,Cb,BH,List.append_assoc]
 rfl
theorem z7y(c:UInt8)(v:Int):PC Tryz.prog 22 [.raw (.int .u8 c.toNat),rI v] (.agg [rI 2,rI v,.isl .u8 (k32 c)]):=by
 refine q0i rfl rfl ?_;refine rQ fi22 ?_;refine q0f (ι:=Nat) (fun i=>[(6,rI i)]) (fun i=>[.cells 24 [rI 0,rI 0,.raw (.slice none 0 0)],.row .u8 (kfP c i)]) (fun i=>32-i) (fun i=>i≤32) 0 (Aj _) rfl ?_ ?_
 · with_reducible refine sxE ?_;trivial
 intro i hi;have hl:=j1x c hi;have hwr:=wsx i (by omega)
 by_cases h:i<32
 · have f1:((i:Int) <32)=True:=eq_true (by omega)
   refine gy3 f1 hl Ac ?_;refine ⟨⟨by omega,by omega⟩,⟨by omega,by rw [UInt8.ofNat_toNat]⟩,i+1,h,by dsimp only;omega,?_,?_⟩
   · rw [AC,j1E c h]
   with_reducible refine sx1 hwr ?_;trivial
 obtain rfl:i=32:=by omega
 have f1:(((32:Nat):Int) <32)=False:=eq_false (by omega)
 refine gy2 f1 hl ?_;simp [kfP,k32]
theorem q2S(v:Int)(kb:List UInt8)(kind:Int)(b:List UInt8)(now skew time micro no:Int)(hkb:kb.length≤1048576)(hb:b.length≤1048576):PC Tryz.prog 23 [.agg (KeyT.cells (2,v,kb)),.agg [rI kind,.isl .u8 b],rI now,rI skew,rI time,rI micro,rI no] (rB (decide (ckG (2,v,kb) kind b now skew=(time,micro,no)))):=by
 have hc:=z2G (2,v,kb) kind b now skew ⟨trivial,trivial,⟨show kb.length≤1125899906842624 by omega,fun _ _=>trivial⟩⟩ hb
 generalize ckG (2,v,kb) kind b now skew=x at*;obtain ⟨x1,x2,x3⟩:=x;simp only [ckO] at hc;refine q0q rfl rfl ?_;refine q0V fi23 ?_;refine uQ 600 _ ?_
 with_reducible refine sxE ?_
 refine q0a hc ?_
 by_cases c1:x1=time
 · by_cases c2:x2=micro
   · refine gy2 c1 c2 ?_;refine q0a (z2V x3) ?_;refine uQ 600 _ ?_
     with_reducible refine sxE ?_
     simp
   refine gy2 c1 c2 ?_;simp [c2]
 refine uQ 600 _ ?_;simp (maxSteps:=3000000) only [c1,go_sem,↓zA,↓reduceIte,↓reduceDIte] <;>try simp only [zB]
 simp [c1]
def fnO(x:Int×Int×Int×Int):SV:=.tup [rI x.1,rI x.2.1,rI x.2.2.1,rI x.2.2.2]
def fnG(f:Key→Int×Int×Int):Nat→Int→List Key→Int×Int×Int×Int
 |_,first,[]=>(0,0,0,first)
 |i,first,k :: ks=>if (f k).2.2=0 then ((i:Int),(f k).1,(f k).2.1,0) else fnG f (i+1) (if i=0 then (f k).2.2 else first) ks
def fstG(f:Key→Int×Int×Int)(ks:List Key)(i:Nat):Int:=if i=0 then 9 else (f (ks.getD 0 KeyT.dflt)).2.2
theorem z6x{α:Type}{l:List α}{i:Nat}(h:i<l.length)(d:α):l.drop i=l.getD i d :: l.drop (i+1):=by
 rw [List.drop_eq_getElem_cons h,Ab,Ae h];rfl
theorem j2l(ks:List Key)(kind:Int)(b:List UInt8)(now skew:Int)(hks:∀k∈ks,KeyT.ok k)(hkl:ks.length≤1000)(hb:b.length≤1048576):PC Tryz.prog 19 [.isl KeyT ks,.agg [rI kind,.isl .u8 b],rI now,rI skew] (fnO (fnG (fun k=>ckG k kind b now skew) 0 9 ks)):=by
 refine q0q rfl rfl ?_;have hcc:=fun k ho=>z2G k kind b now skew ho hb;generalize hF:(fun k=>ckG k kind b now skew)=F at*;have hcc:∀k,KeyT.ok k→PC Tryz.prog 14 [.agg (KeyT.cells k),.agg [rI kind,.isl .u8 b],rI now,rI skew] (ckO (F k)):=by rw [←hF];exact hcc
 refine q0V fi19 ?_;refine uQ 600 _ ?_
 with_reducible refine sxE ?_
 obtain ⟨R,hR⟩:∃R,R=fnG F 0 9 ks:=⟨_,rfl⟩;rw [←hR];refine q1t (ι:=Nat) (fun i=>[(17,rI i),(12,rI (fstG F ks i))]) (fun i=>[.cells 27 [rI kind,.isl .u8 b]]) (fun i=>ks.length-i) (fun i=>i≤ks.length∧R=fnG F i (fstG F ks i) (ks.drop i)) 0 ⟨Aj _,by rw [AG];exact hR⟩ 1 rfl (by decide) (fun _=>rfl) (fun _=>rfl) (fun _=>rfl) ?_ ?_
 · with_reducible refine sxE ?_
   rfl
 rintro i ⟨hi,hRi⟩;have hwr:=wsx i (by omega)
 by_cases h:i<ks.length
 · rw [z6x h KeyT.dflt] at hRi;have hm:ks.getD i KeyT.dflt∈ks:=by
    rw [Ab,Ae h];exact Bu _
   have hko:=hks _ hm;have hf0:i=0→fstG F ks (i+1)=(F (ks.getD i KeyT.dflt)).2.2:=fun e=>by subst e;rfl
   have hf1:i≠0→fstG F ks (i+1)=fstG F ks i:=fun e=>by unfold fstG;rw [if_neg e,if_neg (by omega)]
   have f1:((i:Int) < (ks.length:Int))=True:=eq_true (by omega)
   generalize hk:ks.getD i KeyT.dflt=k at*;have hc:=hcc k hko;rw [fnG] at hRi;generalize F k=x at*;obtain ⟨kp,kv,kb⟩:=k;obtain ⟨x1,x2,x3⟩:=x;simp only [ckO] at hc;refine gy2 f1 hk ?_;refine ⟨⟨by omega,h⟩,q0a hc ?_⟩
   dsimp only at hRi hf0
   by_cases c0:x3=0
   · rw [if_pos c0] at hRi;subst c0;refine uQ 600 _ ?_
     with_reducible refine sxE ?_
     rw [hRi];rfl
   have c0':(x3=0)=False:=eq_false c0;rw [if_neg c0] at hRi
   by_cases ci:i=0
   · have ci':((i:Int)=0)=True:=eq_true (by omega)
     rw [if_pos ci,←hf0 ci] at hRi;refine gy2 c0' ci' ?_;refine ⟨i+1,⟨h,hRi⟩,by dsimp only;omega,⟨[_],rfl⟩,?_⟩
     rw [←hf0 ci]
     with_reducible refine sx1 hwr ?_;trivial
   have ci':((i:Int)=0)=False:=eq_false (by omega)
   rw [if_neg ci,←hf1 ci] at hRi;refine gy2 c0' ci' ?_;refine ⟨i+1,⟨h,hRi⟩,by dsimp only;omega,⟨[_],rfl⟩,?_⟩
   rw [←hf1 ci]
   with_reducible refine sx1 hwr ?_;trivial
 obtain rfl:i=ks.length:=by omega
 have f1:((ks.length:Int) < (ks.length:Int))=False:=eq_false (by omega)
 rw [List.drop_length] at hRi;refine gy1 f1 ?_;rw [hRi];rfl
end Go.Proofs.YtikapabgggphpaaGreatDoor
