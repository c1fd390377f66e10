/- Contracts: reading lists that may be absent. -/
import Derived.Test.YtikapabgggphpaaGreatDoorP29
import Derived.Test.YtikapabgggphpaaGreatDoorP27
import Derived.Test.YtikapabgggphpaaGreatDoorP23
import Derived.KernelRfl
set_option linter.all false
namespace Go.Proofs.YtikapabgggphpaaGreatDoor
open Go Go.Sx Go.Proofs
set_option maxRecDepth 100000
set_option maxHeartbeats 4000000
@[go_sem] abbrev mU (o:Int):SV:=.raw (.int .u32 o)
theorem z4Y (k:Key):PC Tryz.prog 18 [.agg (KeyT.cells k)] (.isl .u8 (keyS k)):=by
 refine q0t rfl rfl ?_
 refine rQ fi18 ?_
 refine q0a (z7X _ _ _) ?_
 refine gQ ?_;trivial
def kp (k:Int):Int:=k+1
theorem j1J (b:List UInt8) (n:Nat) (hn:n≤b.length) (hb:b.length≤1099511627776):
 EffZ Tryz.prog 65 [.ptr 0 0] b n (posX b n) (fun v:Key=>.agg (KeyT.cells v)) (keyP (b.drop n)):=by
 have ht:=z6B b n hn hb
 refine z1G ?_
 generalize keyP (b.drop n)=X at*
 cases X with
 |error e=>
  have ht':=z6V ht rfl
  refine rQ fi65 ?_
  refine effP [0] (ht') ?_;trivial
 |ok x=>
  obtain ⟨v,k⟩:=x
  have ht':=z6D ht rfl
  refine rQ fi65 ?_
  refine eQ [0] (ht') ?_;trivial
theorem z9A (b:List UInt8) (n m e:Nat) (T2 T4 T5 T6:TypeId) (y:Value) (K:List SObj→Prop)
 (h:∀G,K ([rdr b n,.cells T2 [.ptr 0 0],.cells T4 [rI 0,rI 0,.raw (.slice none 0 0)],.cells T5 [rI e],.cells T6 [rI n]]++G)):
 DCall Tryz.prog 92 [.ptr 4 0,.ptr 1 0,.ptr 2 0,.ptr 3 0] (some (errV e)) [rdr b m,.cells T2 [.ptr 0 0],.cells T4 [rI 0,rI 0,.raw (.slice none 0 0)],.cells T5 [.raw y],.cells T6 [rI n]] K:=by
 refine j3Q fi92 ?_
 refine uQ 16 _ ?_
 with_reducible refine sxE ?_
 refine q1P [999999,1,4,5] mixed ?_
 refine uQ 600 _ ?_
 simp (maxSteps:=3000000) only [List.getElem?_nil,go_sem,↓zA,↓reduceIte,↓reduceDIte] <;>try simp only [zB]
 exact h _
theorem z7H (H:List SObj) (K:List SObj→Prop) (h:∀G,K (H++G)):DCall Tryz.prog 92 [.ptr 4 0,.ptr 1 0,.ptr 2 0,.ptr 3 0] none H K:=by
 refine recE mixed fi92 ?_
 simpa using h []
theorem j1U (b:List UInt8) (n:Nat) (hn:n≤b.length) (hb:b.length≤1099511627776):
 EffR Tryz.prog 64 [.ptr 0 0,.fn 65 [] []] b n (fun v:Key=>.agg (KeyT.cells v)) zKey (keyP (b.drop n)):=by
 have hk:=j1J b n hn hb
 generalize keyP (b.drop n)=X at*
 cases X with
 |error e=>
  have hk':=z6V hk rfl
  refine q0d (by simp) ?_
  refine defE mixed fi64 ?_
  refine gQ ?_
  refine effP [0] (hk') ?_
  refine ⟨by simp,z9A b n _ e _ _ _ _ _ _ fun G=> ?_⟩
  with_reducible refine sxE ?_;trivial
 |ok x=>
  obtain ⟨v,k⟩:=x
  have hk':=z6D hk rfl
  refine q0d (by simp) ?_
  refine defE mixed fi64 ?_
  refine gQ ?_
  refine eQ [0] (hk') ?_
  refine z7H _ _ fun G=> ?_
  with_reducible refine sxE ?_;trivial
theorem z8I (b:List UInt8) (n:Nat) (hn:n≤b.length) (hb:b.length≤1099511627776):
 EffR Tryz.prog 34 [.ptr 0 0] b n (fun v:Key=>.agg (KeyT.cells v)) zKey (keyP (b.drop n)):=by
 have hk:=j1U b n hn hb
 generalize keyP (b.drop n)=X at*
 cases X with
 |error e=>
  have hk':=z6d hk rfl
  refine q0d (by simp) ?_
  refine rQ fi34 ?_
  refine eQ [0] (hk') ?_;trivial
 |ok x=>
  obtain ⟨v,k⟩:=x
  have hk':=z6r hk rfl
  refine q0d (by simp) ?_
  refine rQ fi34 ?_
  refine eQ [0] (hk') ?_;trivial
theorem j0W (b:List UInt8) (n:Nat) (hn:n≤b.length) (hb:b.length≤1099511627776):
 EffR Tryz.prog 72 [.ptr 0 0] b n (fun v:Int=>rI v) (rI 0) (intP (b.drop n)):=by
 cases hx:intP (b.drop n) with
 |error e=>exact z4j b n hn hb hx
 |ok x=>
  obtain ⟨v,k⟩:=x
  exact z5I b n hn hb hx
end Go.Proofs.YtikapabgggphpaaGreatDoor
namespace Go.Proofs.YtikapabgggphpaaGreatDoor
open Go Go.Sx Go.Proofs
set_option maxRecDepth 100000
set_option maxHeartbeats 40000000
theorem q7T (k:Key) (ho:KeyT.ok k):PC Tryz.prog 16 [.agg (KeyT.cells k)] (rB (vKey k)):=by
 have hf:=j0c k
 obtain ⟨p,v,b⟩:=k
 change PC _ _ _ (.tup [.agg (rawL (kindOf p)),rB (vKey (p,v,b))]) at hf
 generalize vKey (p,v,b)=vb at*
 have h3:=q5n p
 generalize kindOf p=kv at*
 refine q0q rfl rfl ?_
 rcases h3 with rfl|rfl|rfl
 all_goals
  refine rQ fi16 ?_
  refine q0a hf ?_
  refine uQ 600 _ ?_
  simp (maxSteps:=3000000) only [kind1,kind2,kindZ,go_sem,↓zA,↓reduceIte,↓reduceDIte] <;>try simp only [zB]
def plnS (t m:Int):List UInt8:=elemS 48 [wrapS 160 0 (timeS t),wrapS 160 1 (intS m)]
def mkOk (k:Key) (t m:Int):Bool:=vKey k&& (decide (0≤t) && (decide (t≤1099511627776) && (decide (0≤m) && decide (m<1000000))))
theorem z1s (t m:Int):(plnS t m).length≤100:=by
 unfold plnS
 have h:=q1r 48 [wrapS 160 0 (timeS t),wrapS 160 1 (intS m)]
 have h1:=q1O 160 0 (timeS t)
 have h2:=q1O 160 1 (intS m)
 have h3:(timeS t).length≤20:=by
  unfold timeS
  split
  · have:=q1r 24 [numS t 6]
    have h1:(numS t 6).length=6:=by simp [numS]
    simp only [List.flatten_cons,List.flatten_nil,List.append_nil] at this
    omega
  simp
 have h4:=q2k m
 simp only [List.flatten_cons,List.flatten_nil,List.append_nil,List.length_append] at h
 omega
def mkG (k:Key) (t m:Int) (conf:List UInt8):SV:=if mkOk k t m=true∧conf.length=16 then .tup [.agg [rI 2,.isl .u8 (keyS (k.1,k.2.1,seS k 1 conf (plnS t m)))],rI 0] else .tup [.agg [rI 0,.isl .u8 []],rI 2]
theorem j3m {k:Key} {t m:Int} {conf:List UInt8} (h:conf.length≠16):mkG k t m conf= .tup [.agg [rI 0,.isl .u8 []],rI 2]:=by
 unfold mkG
 rw [if_neg (fun h'=>h h'.2)]
theorem z7v (k:Key) (t m:Int) (conf:List UInt8) (ho:KeyT.ok k) (hv:mkOk k t m=true):PC Tryz.prog 10 [.agg (KeyT.cells k),rI t,rI m,.isl .u8 conf] (mkG k t m conf):=by
 have hmk:mkG k t m conf=if conf.length=16 then .tup [.agg [rI 2,.isl .u8 (keyS (k.1,k.2.1,seS k 1 conf (plnS t m)))],rI 0] else .tup [.agg [rI 0,.isl .u8 []],rI 2]:=by unfold mkG;rw [hv];simp
 unfold mkOk at hv
 simp only [Bool.and_eq_true,decide_eq_true_eq] at hv
 obtain ⟨h1,h2,h3,h4,h5⟩:=hv
 have hu:uOk k (1:Nat)=true:=by unfold uOk;rw [h1];decide
 have hva:=q7T k ho
 have hse:=j2R k 1 conf (plnS t m) ho
 have hps:=z1s t m
 unfold slO at hse
 have hds:=z4Y (k.1,k.2.1,seS k 1 conf (plnS t m))
 rw [h1] at hva
 have f2:(t<0)=False:=eq_false (by omega)
 have f3:(1099511627776<t)=False:=eq_false (by omega)
 have f4:(m<0)=False:=eq_false (by omega)
 have f5:(1000000≤m)=False:=eq_false (by omega)
 have hsq:=q7N [wrapS 160 0 (timeS t),wrapS 160 1 (intS m)] (by simp)
 change PC _ _ _ (.isl .u8 (plnS t m)) at hsq
 rw [hmk]
 clear hmk
 by_cases hc:conf.length=16
 · rw [if_pos ⟨hu,hc,by omega⟩] at hse
   rw [if_pos hc]
   generalize seS k 1 conf (plnS t m)=y at*
   generalize plnS t m=pl at*
   obtain ⟨p,v,b⟩:=k
   dsimp only at*
   refine q0q rfl rfl ?_
   refine q0G fi10 ?_
   refine uQ 600 _ ?_
   with_reducible refine sxE ?_
   refine q0a hva ?_
   refine uQ 600 _ ?_
   simp (maxSteps:=3000000) only [f2,f3,f4,f5,go_sem,↓zA,↓reduceIte,↓reduceDIte] <;>try simp only [zB]
   refine q0a (z9O t) ?_
   refine gQ ?_
   refine q0a (q4A 0 (timeS t)) ?_
   refine gQ ?_
   refine q0a (q3i m) ?_
   refine gQ ?_
   refine q0a (q4A 1 (intS m)) ?_
   refine gQ ?_
   refine q0p 2 ?_
   with_reducible refine sxE ?_
   refine q0a hsq ?_
   refine gQ ?_
   refine q0a hse ?_
   refine uQ 600 _ ?_
   with_reducible refine sxE ?_
   refine q0a hds ?_
   refine gQ ?_;trivial
 rw [if_neg (fun h=>hc h.2.1)] at hse
 rw [if_neg hc]
 generalize seS k 1 conf (plnS t m)=y at*
 generalize plnS t m=pl at*
 obtain ⟨p,v,b⟩:=k
 dsimp only at*
 refine q0t rfl rfl ?_
 refine q0G fi10 ?_
 refine uQ 600 _ ?_
 with_reducible refine sxE ?_
 refine q0a hva ?_
 refine uQ 600 _ ?_
 simp (maxSteps:=3000000) only [f2,f3,f4,f5,go_sem,↓zA,↓reduceIte,↓reduceDIte] <;>try simp only [zB]
 refine q0a (z9O t) ?_
 refine gQ ?_
 refine q0a (q4A 0 (timeS t)) ?_
 refine gQ ?_
 refine q0a (q3i m) ?_
 refine gQ ?_
 refine q0a (q4A 1 (intS m)) ?_
 refine gQ ?_
 refine q0p 2 ?_
 with_reducible refine sxE ?_
 refine q0a hsq ?_
 refine gQ ?_
 refine q0a hse ?_
 refine uQ 600 _ ?_
 with_reducible refine sxE ?_;trivial
theorem z5b (k:Key) (t m:Int) (conf:List UInt8) (ho:KeyT.ok k) (hv:mkOk k t m=false):PC Tryz.prog 10 [.agg (KeyT.cells k),rI t,rI m,.isl .u8 conf] (.tup [.agg [rI 0,.isl .u8 []],rI 2]):=by
 have hva:=q7T k ho
 unfold mkOk at hv
 obtain ⟨p,v,b⟩:=k
 refine q0t rfl rfl ?_
 refine q0G fi10 ?_
 refine uQ 600 _ ?_
 with_reducible refine sxE ?_
 refine q0a hva ?_
 generalize vKey (p,v,b)=vb at*
 cases vb with
 |false=>
  refine uQ 600 _ ?_
  with_reducible refine sxE ?_;trivial
 |true=>
  by_cases c2:t<0
  · have f2:(t<0)=True:=eq_true c2
    refine uQ 600 _ ?_
    simp (maxSteps:=3000000) only [f2,go_sem,↓zA,↓reduceIte,↓reduceDIte] <;>try simp only [zB]
  have f2:(t<0)=False:=eq_false c2
  by_cases c3:1099511627776<t
  · have f3:(1099511627776<t)=True:=eq_true c3
    refine uQ 600 _ ?_
    simp (maxSteps:=3000000) only [f2,f3,go_sem,↓zA,↓reduceIte,↓reduceDIte] <;>try simp only [zB]
  have f3:(1099511627776<t)=False:=eq_false c3
  by_cases c4:m<0
  · have f4:(m<0)=True:=eq_true c4
    refine uQ 600 _ ?_
    simp (maxSteps:=3000000) only [f2,f3,f4,go_sem,↓zA,↓reduceIte,↓reduceDIte] <;>try simp only [zB]
  have f4:(m<0)=False:=eq_false c4
  by_cases c5:1000000≤m
  · have f5:(1000000≤m)=True:=eq_true c5
    refine uQ 600 _ ?_
    simp (maxSteps:=3000000) only [f2,f3,f4,f5,go_sem,↓zA,↓reduceIte,↓reduceDIte] <;>try simp only [zB]
  exfalso
  simp at hv
  omega
theorem z0F (k:Key) (t m:Int) (conf:List UInt8) (ho:KeyT.ok k):PC Tryz.prog 10 [.agg (KeyT.cells k),rI t,rI m,.isl .u8 conf] (mkG k t m conf):=by
 by_cases hv:mkOk k t m=true
 · exact z7v k t m conf ho hv
 have h:=z5b k t m conf ho (by simpa using hv)
 unfold mkG
 rwa [if_neg (fun h'=>hv h'.1)]
def nbP (m:Nat) (P:List UInt8→Except Nat (Int×Nat)) (r:List UInt8):Except Nat (Int×Nat):=
 if nextB m r=true then
  if takeE (tagB m) r=0 then
   match P (takeC r) with
   |.error e=>.error e
   |.ok (v,k)=>if k< (takeC r).length then .error 6 else .ok (v,takeN r)
  else .error (takeE (tagB m) r)
 else .error 6
def nbO (b:List UInt8) (n:Nat):Except Nat (Int×Nat)→Out×List SObj
 |.ok (v,k)=>(.ret (.tup [rI v,rI 0]),[rdr b (n+k)])
 |.error e=>(.ret (.tup [rI 0,rI e]),[.dead])
theorem q9Z (F:Nat) (P:List UInt8→Except Nat (Int×Nat)) (m:Nat) (hm:m≤30) (b:List UInt8) (n:Nat) (hn:n≤b.length) (hb:b.length≤1099511627776)
 (hF:∀c:List UInt8,c.length≤1099511627776→EffR Tryz.prog F [.ptr 0 0] c 0 (fun v:Int=>rI v) (rI 0) (P c)) (hfit:∀c v k,P c= .ok (v,k)→k≤c.length) (hne:∀c e,P c= .error e→e≠0):
 PE Tryz.prog 70 [.ptr 0 0,rI m,.fn F [] []] [rdr b n] (nbO b n (nbP m P (b.drop n))).1 (nbO b n (nbP m P (b.drop n))).2:=by
 unfold nbP
 cases hx:nextB m (b.drop n) with
 |false=>
  have ht:=z0W m hm b n hn hx
  rw [if_neg (by simp)]
  refine q0d (by simp [nbO]) ?_
  refine rQ fi70 ?_
  refine eQ [0] (ht) ?_
  simp only [nbO]
  with_reducible refine sxE ?_
  rfl
 |true=>
  rw [if_pos rfl]
  by_cases h0:takeE (tagB m) (b.drop n)=0
  · rw [if_pos h0]
    have ht:=z0N m hm b n hn hb hx h0
    have hcl:(takeC (b.drop n)).length≤1099511627776:=q5p hb
    generalize takeC (b.drop n)=c at*
    generalize takeN (b.drop n)=k0 at*
    have hf:=hF c hcl
    cases hp:P c with
    |error e=>
     rw [hp] at hf
     have he:=hne c e hp
     have he':((e:Int)=0)=False:=eq_false (by omega)
     refine q0d (by simp [nbO]) ?_
     refine rQ fi70 ?_
     refine eQ [0] (ht) ?_
     refine q0h [1] (hf) rfl (by decide) (by repeat first|exact trivial|exact rfl|refine And.intro ?_ ?_) rfl rfl ?_
     simp only [afterO,Out.ren,SV.ren,mgA,sig,SObj.ren,SV.renL,List.set,List.map,List.append_nil,he']
     refine uQ 600 _ ?_
     with_reducible refine sx1 he' ?_
     simp only [nbO]
     with_reducible refine sxE ?_;trivial
    |ok x=>
     obtain ⟨v,k⟩:=x
     rw [hp] at hf
     have hk:=hfit c v k hp
     have hen:=z7D c (0+k) (by omega)
     rw [Nat.zero_add] at hen
     by_cases hlt:k<c.length
     · rw [if_pos hlt] at hen
       dsimp only
       rw [if_pos hlt]
       refine q0d (by simp [nbO]) ?_
       refine rQ fi70 ?_
       refine eQ [0] (ht) ?_
       refine q0h [1] (hf) rfl (by decide) (by repeat first|exact trivial|exact rfl|refine And.intro ?_ ?_) rfl rfl ?_
       simp only [afterO,Out.ren,SV.ren,mgA,sig,SObj.ren,SV.renL,List.set,List.map,List.append_nil,Nat.zero_add]
       refine uQ 600 _ ?_
       simp (maxSteps:=3000000) only [Nat.zero_add,go_sem,↓zA,↓reduceIte,↓reduceDIte] <;>try simp only [zB]
       refine eQ [1] (hen) ?_
       simp only [nbO]
       with_reducible refine sxE ?_
       rfl
     rw [if_neg hlt] at hen
     dsimp only
     rw [if_neg hlt]
     refine q0d (by simp [nbO]) ?_
     refine rQ fi70 ?_
     refine eQ [0] (ht) ?_
     refine q0h [1] (hf) rfl (by decide) (by repeat first|exact trivial|exact rfl|refine And.intro ?_ ?_) rfl rfl ?_
     simp only [afterO,Out.ren,SV.ren,mgA,sig,SObj.ren,SV.renL,List.set,List.map,List.append_nil,Nat.zero_add]
     refine uQ 600 _ ?_
     simp (maxSteps:=3000000) only [Nat.zero_add,go_sem,↓zA,↓reduceIte,↓reduceDIte] <;>try simp only [zB]
     refine eQ [1] (hen) ?_
     simp only [nbO]
     with_reducible refine sxE ?_;trivial
  rw [if_neg h0]
  have ht:=z1c m hm b n hn hb hx h0
  have he':(((takeE (tagB m) (b.drop n):Nat):Int)=0)=False:=eq_false (by omega)
  generalize takeE (tagB m) (b.drop n)=e at*
  refine q0d (by simp [nbO]) ?_
  refine rQ fi70 ?_
  refine q0h [0] (ht) rfl (by decide) (by repeat first|exact trivial|exact rfl|refine And.intro ?_ ?_) rfl rfl ?_
  simp only [afterO,Out.ren,SV.ren,mgA,sig,SObj.ren,SV.renL,List.set,List.map,List.append_nil,he']
  refine uQ 600 _ ?_
  with_reducible refine sx1 he' ?_
  simp only [nbO]
  with_reducible refine sxE ?_;trivial
def timeI (r:List UInt8):Except Nat (Int×Nat):=match timeP r with
 |.ok (v,k)=>.ok ((v:Int),k)
 |.error e=>.error e
theorem z9q (b:List UInt8) (hb:b.length≤1099511627776):EffR Tryz.prog 71 [.ptr 0 0] b 0 (fun v:Int=>rI v) (rI 0) (timeI b):=by
 unfold timeI
 cases hx:timeP b with
 |error e=>exact z8W b 0 (Nat.zero_le _) hb (by rw [List.drop_zero];exact hx)
 |ok x=>
  obtain ⟨v,k⟩:=x
  exact z9J b 0 (Nat.zero_le _) hb (by rw [List.drop_zero];exact hx)
theorem z7j (c:List UInt8) (v:Int) (k:Nat) (h:timeI c= .ok (v,k)):k≤c.length:=by
 unfold timeI at h
 split at h
 · rename_i h1;cases h;exact q5C _ _ _ h1
 cases h
theorem q8n (c:List UInt8) (e:Nat) (h:timeI c= .error e):e≠0:=by
 unfold timeI at h
 split at h
 · cases h
 rename_i h1;cases h;exact q6o h1
theorem z5L {m:Nat} {P:List UInt8→Except Nat (Int×Nat)} {r:List UInt8} {v:Int} {k:Nat} (h:nbP m P r= .ok (v,k)):k≤r.length:=by
 unfold nbP at h
 split at h
 · split at h
   · rename_i h0
     split at h
     · cases h
     split at h
     · cases h
     cases h;exact q4B h0
   cases h
 cases h
theorem z3i {m:Nat} {P:List UInt8→Except Nat (Int×Nat)} {r:List UInt8} {e:Nat} (hne:∀c e,P c= .error e→e≠0) (h:nbP m P r= .error e):e≠0:=by
 unfold nbP at h
 split at h
 · split at h
   · split at h
     · rename_i h1;cases h;exact hne _ _ h1
     split at h
     · cases h;decide
     cases h
   rename_i h0;cases h;exact h0
 cases h;decide
def rdT (p:List UInt8):Except Nat (Int×Int):=
 if takeE 48 p=0 then
  if takeN p<p.length then .error 6
  else match nbP 0 timeI (takeC p) with
   |.error e=>.error e
   |.ok (t,k1)=>match nbP 1 intP ((takeC p).drop k1) with
    |.error e=>.error e
    |.ok (m,k2)=>if k1+k2< (takeC p).length then .error 6 else .ok (t,m)
 else .error (takeE 48 p)
def rdO:Except Nat (Int×Int)→SV
 |.ok (t,m)=>.tup [rI t,rI m,rI 0]
 |.error e=>.tup [rI 0,rI 0,rI e]
theorem j3C (p:List UInt8) (hp:p.length≤1099511627776):PC Tryz.prog 37 [.isl .u8 p] (rdO (rdT p)):=by
 have hnew:=j4h p (by omega)
 have hs0:=z4n p 0 (Nat.zero_le _) hp
 have hs1:=z5e p 0 (Nat.zero_le _) hp
 rw [List.drop_zero] at hs0 hs1
 have hcl:(takeC p).length≤1099511627776:=by have:=q4h p;omega
 have hn0:=q9Z 71 timeI 0 (by decide) (takeC p) 0 (Nat.zero_le _) hcl (fun c hc=>z9q c hc) z7j q8n
 rw [List.drop_zero] at hn0
 unfold rdT
 by_cases h0:takeE 48 p=0
 · have hs:=hs0 h0
   have hle:=q4B h0
   rw [if_pos h0]
   rw [Nat.zero_add] at hs
   have hen:=z7D p (takeN p) hle
   generalize takeC p=c at*
   generalize takeN p=k0 at*
   by_cases hlt:k0<p.length
   · rw [if_pos hlt] at hen
     rw [if_pos hlt]
     refine q0q rfl rfl ?_
     refine rQ fi37 ?_
     refine eQ [] (hnew) ?_
     refine eQ [0] (hs) ?_
     refine eQ [0] (hen) ?_
     rfl
   rw [if_neg hlt] at hen
   rw [if_neg hlt]
   cases hx:nbP 0 timeI c with
   |error e=>
    rw [hx] at hn0
    have he:=z3i q8n hx
    have he':((e:Int)=0)=False:=eq_false (by omega)
    simp only [nbO] at hn0
    refine q0q rfl rfl ?_
    refine rQ fi37 ?_
    refine eQ [] (hnew) ?_
    refine eQ [0] (hs) ?_
    refine eQ [0] (hen) ?_
    refine q0h [1] (hn0) rfl (by decide) (by repeat first|exact trivial|exact rfl|refine And.intro ?_ ?_) rfl rfl ?_
    simp only [afterO,Out.ren,SV.ren,mgA,sig,SObj.ren,SV.renL,List.set,List.map,List.append_nil,he']
    refine uQ 600 _ ?_
    with_reducible refine sx1 he' ?_
    rfl
   |ok x=>
    obtain ⟨t,k1⟩:=x
    have hk1:=z5L hx
    rw [hx] at hn0
    simp only [nbO] at hn0
    rw [Nat.zero_add] at hn0
    have hn1:=q9Z 72 intP 1 (by decide) c k1 hk1 hcl (fun c hc=>by have:=j0W c 0 (Nat.zero_le _) hc;rwa [List.drop_zero] at this) (fun c v k h=>q5C _ _ _ h) (fun c e h=>q6o h)
    dsimp only
    cases hy:nbP 1 intP (c.drop k1) with
    |error e=>
     rw [hy] at hn1
     have he:=z3i (fun c e h=>q6o h) hy
     have he':((e:Int)=0)=False:=eq_false (by omega)
     simp only [nbO] at hn1
     refine q0q rfl rfl ?_
     refine rQ fi37 ?_
     refine eQ [] (hnew) ?_
     refine eQ [0] (hs) ?_
     refine eQ [0] (hen) ?_
     refine eQ [1] (hn0) ?_
     refine q0h [1] (hn1) rfl (by decide) (by repeat first|exact trivial|exact rfl|refine And.intro ?_ ?_) rfl rfl ?_
     simp only [afterO,Out.ren,SV.ren,mgA,sig,SObj.ren,SV.renL,List.set,List.map,List.append_nil,he']
     refine uQ 600 _ ?_
     with_reducible refine sx1 he' ?_
     rfl
    |ok y=>
     obtain ⟨m,k2⟩:=y
     have hk2:=z5L hy
     rw [List.length_drop] at hk2
     rw [hy] at hn1
     simp only [nbO] at hn1
     have hen2:=z7D c (k1+k2) (by omega)
     dsimp only
     by_cases hl2:k1+k2<c.length
     · rw [if_pos hl2] at hen2
       rw [if_pos hl2]
       refine q0q rfl rfl ?_
       refine rQ fi37 ?_
       refine eQ [] (hnew) ?_
       refine eQ [0] (hs) ?_
       refine eQ [0] (hen) ?_
       refine eQ [1] (hn0) ?_
       refine eQ [1] (hn1) ?_
       refine eQ [1] (hen2) ?_
       rfl
     rw [if_neg hl2] at hen2
     rw [if_neg hl2]
     refine q0q rfl rfl ?_
     refine rQ fi37 ?_
     refine eQ [] (hnew) ?_
     refine eQ [0] (hs) ?_
     refine eQ [0] (hen) ?_
     refine eQ [1] (hn0) ?_
     refine eQ [1] (hn1) ?_
     refine eQ [1] (hen2) ?_
     rfl
 have hs:=hs1 h0
 have he':(((takeE 48 p:Nat):Int)=0)=False:=eq_false (by omega)
 rw [if_neg h0]
 generalize takeE 48 p=e at*
 refine q0q rfl rfl ?_
 refine rQ fi37 ?_
 refine eQ [] (hnew) ?_
 refine q0h [0] (hs) rfl (by decide) (by repeat first|exact trivial|exact rfl|refine And.intro ?_ ?_) rfl rfl ?_
 simp only [afterO,Out.ren,SV.ren,mgA,sig,SObj.ren,SV.renL,List.set,List.map,List.append_nil,he']
 refine uQ 600 _ ?_
 with_reducible refine sx1 he' ?_
 rfl
theorem z8k:OkP keyP fun k=>k.2.2.length≤1099511627776:=z9Z (q7X (Q1:=fun _=>True) z2K fun _ _=>q7X (Q1:=fun _=>True) z2K fun _ _=>q7X (Q1:=fun c=>c.length≤1099511627776) (z9D (j3g fun c v hc hd=>by
 unfold decOct at hd;cases hd
 exact hc)) fun _ hc=>j0s hc)
def argOk (k:Key) (kind now skew:Int):Bool:=vKey k&& (decide (kind=2) && (decide (0≤now) && (decide (now≤1099511627776) && (decide (0≤skew) && decide (skew≤1099511627776)))))
def ckT (t m now skew:Int):Int×Int×Int:=
 if m<0∨1000000≤m then (0,0,3)
 else if skew<mxV true (IntKind.i64.wrap (t-now)) (IntKind.i64.wrap (now-t)) then (0,0,330)
 else (t,m,0)
def ckP (pl:List UInt8) (now skew:Int):Int×Int×Int:=match rdT pl with
 |.error e=>(0,0,(e:Int))
 |.ok (t,m)=>ckT t m now skew
def ckO (x:Int×Int×Int):SV:=.tup [rI x.1,rI x.2.1,rI x.2.2]
def ckG (k:Key) (kind:Int) (b:List UInt8) (now skew:Int):Int×Int×Int:=
 if argOk k kind now skew=true then match keyP b with
  |.error e=>(0,0,(e:Int))
  |.ok (s,n)=>if n<b.length then (0,0,5)
   else if (opS k 1 s.1 s.2.1 s.2.2).2=0 then ckP (opS k 1 s.1 s.2.1 s.2.2).1 now skew
   else (0,0,(opS k 1 s.1 s.2.1 s.2.2).2)
 else (0,0,2)
theorem j1Q (k:Key) (u:Nat) (sp sv:Int) (sb:List UInt8):(opS k u sp sv sb).1.length≤sb.length:=by
 unfold opS
 split
 · rename_i hu
   have hf:=q2z hu
   split
   · split
     · exact Nat.zero_le _
     split
     · exact Nat.zero_le _
     split
     · rename_i h1 _ _
       dsimp only
       have hl:(sb.take (sb.length-k.2.2.length)).length=sb.length-k.2.2.length:=by rw [List.length_take];omega
       unfold unS
       split
       · rw [List.length_drop,q8D _ _ _ rfl (by omega)];omega
       rw [q3H,List.length_drop];omega
     exact Nat.zero_le _
   exact Nat.zero_le _
 exact Nat.zero_le _
theorem j3T {p:List UInt8} {e:Nat} (h:rdT p= .error e):e≠0:=by
 unfold rdT at h
 split at h
 · split at h
   · cases h;decide
   split at h
   · rename_i h1;cases h;exact z3i q8n h1
   split at h
   · rename_i h1;cases h;exact z3i (fun c e h=>q6o h) h1
   split at h
   · cases h;decide
   cases h
 rename_i h0;cases h;exact h0
theorem z9K (k:Key) (kind:Int) (b:List UInt8) (now skew:Int) (ho:KeyT.ok k) (ha:argOk k kind now skew=false):PC Tryz.prog 14 [.agg (KeyT.cells k),.agg [rI kind,.isl .u8 b],rI now,rI skew] (ckO (0,0,2)):=by
 have hva:=q7T k ho
 unfold argOk at ha
 obtain ⟨p,v,kb⟩:=k
 refine q0q rfl rfl ?_
 refine q0G fi14 ?_
 refine uQ 600 _ ?_
 with_reducible refine sxE ?_
 refine q0a hva ?_
 generalize vKey (p,v,kb)=vb at*
 cases vb with
 |false=>
  refine uQ 600 _ ?_
  with_reducible refine sxE ?_
  rfl
 |true=>
  by_cases c1:kind=2
  · have f1:(kind=2)=True:=eq_true c1
    by_cases c2:now<0
    · have f2:(now<0)=True:=eq_true c2
      refine uQ 600 _ ?_
      simp (maxSteps:=3000000) only [f1,f2,go_sem,↓zA,↓reduceIte,↓reduceDIte] <;>try simp only [zB]
      rfl
    have f2:(now<0)=False:=eq_false c2
    by_cases c3:1099511627776<now
    · have f3:(1099511627776<now)=True:=eq_true c3
      refine uQ 600 _ ?_
      simp (maxSteps:=3000000) only [f1,f2,f3,go_sem,↓zA,↓reduceIte,↓reduceDIte] <;>try simp only [zB]
      rfl
    have f3:(1099511627776<now)=False:=eq_false c3
    by_cases c4:skew<0
    · have f4:(skew<0)=True:=eq_true c4
      refine uQ 600 _ ?_
      simp (maxSteps:=3000000) only [f1,f2,f3,f4,go_sem,↓zA,↓reduceIte,↓reduceDIte] <;>try simp only [zB]
      rfl
    have f4:(skew<0)=False:=eq_false c4
    by_cases c5:1099511627776<skew
    · have f5:(1099511627776<skew)=True:=eq_true c5
      refine uQ 600 _ ?_
      simp (maxSteps:=3000000) only [f1,f2,f3,f4,f5,go_sem,↓zA,↓reduceIte,↓reduceDIte] <;>try simp only [zB]
      rfl
    exfalso
    simp [c1] at ha
    omega
  have f1:(kind=2)=False:=eq_false c1
  refine uQ 600 _ ?_
  simp (maxSteps:=3000000) only [f1,go_sem,↓zA,↓reduceIte,↓reduceDIte] <;>try simp only [zB]
  rfl
theorem q8O (k:Key) (kind:Int) (b:List UInt8) (now skew:Int) (hko:KeyT.ok k) (hb:b.length≤1048576):PC Tryz.prog 14 [.agg (KeyT.cells k),.agg [rI kind,.isl .u8 b],rI now,rI skew] (ckO (ckG k kind b now skew)):=by
 unfold ckG
 cases ha:argOk k kind now skew with
 |false=>
  rw [if_neg (by simp)]
  exact z9K _ kind b now skew hko ha
 |true=>
  rw [if_pos rfl]
  have hva:=q7T k hko
  unfold argOk at ha
  simp only [Bool.and_eq_true,decide_eq_true_eq] at ha
  obtain ⟨a0,rfl,a2,a3,a4,a5⟩:=ha
  rw [a0] at hva
  have f2:(now<0)=False:=eq_false (by omega)
  have f3:(1099511627776<now)=False:=eq_false (by omega)
  have f4:(skew<0)=False:=eq_false (by omega)
  have f5:(1099511627776<skew)=False:=eq_false (by omega)
  have hnew:=j4h b (by omega)
  have hsl:=z8I b 0 (Nat.zero_le _) (by omega)
  rw [List.drop_zero] at hsl
  cases hx:keyP b with
  |error e=>
   have he:=j2A b e hx
   have he':((e:Int)=0)=False:=eq_false (by omega)
   rw [hx] at hsl
   have hs1:=z6d hsl rfl
   obtain ⟨p,v,kb⟩:=k
   refine q0q rfl rfl ?_
   refine q0G fi14 ?_
   refine uQ 600 _ ?_
   with_reducible refine sxE ?_
   refine q0a hva ?_
   refine uQ 600 _ ?_
   simp (maxSteps:=3000000) only [f2,f3,f4,f5,go_sem,↓zA,↓reduceIte,↓reduceDIte] <;>try simp only [zB]
   refine eQ [] (hnew) ?_
   refine q0h [2] (hs1) rfl (by decide) (by repeat first|exact trivial|exact rfl|refine And.intro ?_ ?_) rfl rfl ?_
   simp only [afterO,Out.ren,SV.ren,mgA,sig,SObj.ren,SV.renL,List.set,List.map,List.append_nil,he']
   refine uQ 600 _ ?_
   with_reducible refine sx1 he' ?_
   rfl
  |ok x=>
   obtain ⟨⟨sp,sv,sb⟩,n⟩:=x
   have hsb:sb.length≤1099511627776:=z8k b _ _ (by omega) hx
   have hn:n≤b.length:=z2Q _ _ _ hx
   rw [hx] at hsl
   have hs1:=z6r hsl rfl
   rw [Nat.zero_add] at hs1
   have hen:=z7D b n hn
   dsimp only
   by_cases hlt:n<b.length
   · rw [if_pos hlt] at hen
     rw [if_pos hlt]
     obtain ⟨p,v,kb⟩:=k
     refine q0q rfl rfl ?_
     refine q0G fi14 ?_
     refine uQ 600 _ ?_
     with_reducible refine sxE ?_
     refine q0a hva ?_
     refine uQ 600 _ ?_
     simp (maxSteps:=3000000) only [f2,f3,f4,f5,go_sem,↓zA,↓reduceIte,↓reduceDIte] <;>try simp only [zB]
     refine eQ [] (hnew) ?_
     refine eQ [2] (hs1) ?_
     refine eQ [2] (hen) ?_
     rfl
   rw [if_neg hlt] at hen
   rw [if_neg hlt]
   have hop:=j2x k 1 sp sv sb hko hsb
   have hol:=j1Q k 1 sp sv sb
   change PC _ _ _ (ckO (if (opS k 1 sp sv sb).2=0 then ckP (opS k 1 sp sv sb).1 now skew else (0,0,(opS k 1 sp sv sb).2)))
   generalize opS k 1 sp sv sb=r at*
   obtain ⟨pl,e⟩:=r
   dsimp only at hop hol⊢
   by_cases h0:e=0
   · subst h0
     rw [if_pos rfl]
     have hrd:=j3C pl (by omega)
     unfold ckP
     cases hy:rdT pl with
     |error e2=>
      have he:=j3T hy
      have he':((e2:Int)=0)=False:=eq_false (by omega)
      rw [hy] at hrd
      simp only [rdO] at hrd
      obtain ⟨p,v,kb⟩:=k
      refine q0q rfl rfl ?_
      refine q0G fi14 ?_
      refine uQ 600 _ ?_
      with_reducible refine sxE ?_
      refine q0a hva ?_
      refine uQ 600 _ ?_
      simp (maxSteps:=3000000) only [f2,f3,f4,f5,go_sem,↓zA,↓reduceIte,↓reduceDIte] <;>try simp only [zB]
      refine eQ [] (hnew) ?_
      refine eQ [2] (hs1) ?_
      refine eQ [2] (hen) ?_
      refine q0a hop ?_
      refine gQ ?_
      refine q0a hrd ?_
      refine uQ 600 _ ?_
      with_reducible refine sx1 he' ?_
      rfl
     |ok y=>
      obtain ⟨t,m⟩:=y
      rw [hy] at hrd
      simp only [rdO] at hrd
      dsimp only
      unfold ckT
      by_cases c1:m<0
      · have g1:(m<0)=True:=eq_true c1
        rw [if_pos (.inl c1)]
        obtain ⟨p,v,kb⟩:=k
        refine q0q rfl rfl ?_
        refine q0G fi14 ?_
        refine uQ 600 _ ?_
        with_reducible refine sxE ?_
        refine q0a hva ?_
        refine uQ 600 _ ?_
        simp (maxSteps:=3000000) only [f2,f3,f4,f5,go_sem,↓zA,↓reduceIte,↓reduceDIte] <;>try simp only [zB]
        refine eQ [] (hnew) ?_
        refine eQ [2] (hs1) ?_
        refine eQ [2] (hen) ?_
        refine q0a hop ?_
        refine gQ ?_
        refine q0a hrd ?_
        refine uQ 600 _ ?_
        simp (maxSteps:=3000000) only [g1,go_sem,↓zA,↓reduceIte,↓reduceDIte] <;>try simp only [zB]
        rfl
      have g1:(m<0)=False:=eq_false c1
      by_cases c2:1000000≤m
      · have g2:(1000000≤m)=True:=eq_true c2
        rw [if_pos (.inr c2)]
        obtain ⟨p,v,kb⟩:=k
        refine q0q rfl rfl ?_
        refine q0G fi14 ?_
        refine uQ 600 _ ?_
        with_reducible refine sxE ?_
        refine q0a hva ?_
        refine uQ 600 _ ?_
        simp (maxSteps:=3000000) only [f2,f3,f4,f5,go_sem,↓zA,↓reduceIte,↓reduceDIte] <;>try simp only [zB]
        refine eQ [] (hnew) ?_
        refine eQ [2] (hs1) ?_
        refine eQ [2] (hen) ?_
        refine q0a hop ?_
        refine gQ ?_
        refine q0a hrd ?_
        refine uQ 600 _ ?_
        simp (maxSteps:=3000000) only [g1,g2,go_sem,↓zA,↓reduceIte,↓reduceDIte] <;>try simp only [zB]
        rfl
      have g2:(1000000≤m)=False:=eq_false c2
      rw [if_neg (by rintro (h|h) <;>contradiction)]
      by_cases c3:skew<mxV true (IntKind.i64.wrap (t-now)) (IntKind.i64.wrap (now-t))
      · have g3:(skew<mxV true (IntKind.i64.wrap (t-now)) (IntKind.i64.wrap (now-t)))=True:=eq_true c3
        rw [if_pos c3]
        obtain ⟨p,v,kb⟩:=k
        refine q0q rfl rfl ?_
        refine q0G fi14 ?_
        refine uQ 600 _ ?_
        with_reducible refine sxE ?_
        refine q0a hva ?_
        refine uQ 600 _ ?_
        simp (maxSteps:=3000000) only [f2,f3,f4,f5,go_sem,↓zA,↓reduceIte,↓reduceDIte] <;>try simp only [zB]
        refine eQ [] (hnew) ?_
        refine eQ [2] (hs1) ?_
        refine eQ [2] (hen) ?_
        refine q0a hop ?_
        refine gQ ?_
        refine q0a hrd ?_
        refine uQ 600 _ ?_
        simp (maxSteps:=3000000) only [g1,g2,g3,go_sem,↓zA,↓reduceIte,↓reduceDIte] <;>try simp only [zB]
        rfl
      have g3:(skew<mxV true (IntKind.i64.wrap (t-now)) (IntKind.i64.wrap (now-t)))=False:=eq_false c3
      rw [if_neg c3]
      obtain ⟨p,v,kb⟩:=k
      refine q0q rfl rfl ?_
      refine q0G fi14 ?_
      refine uQ 600 _ ?_
      with_reducible refine sxE ?_
      refine q0a hva ?_
      refine uQ 600 _ ?_
      simp (maxSteps:=3000000) only [f2,f3,f4,f5,go_sem,↓zA,↓reduceIte,↓reduceDIte] <;>try simp only [zB]
      refine eQ [] (hnew) ?_
      refine eQ [2] (hs1) ?_
      refine eQ [2] (hen) ?_
      refine q0a hop ?_
      refine gQ ?_
      refine q0a hrd ?_
      refine uQ 600 _ ?_
      simp (maxSteps:=3000000) only [g1,g2,g3,go_sem,↓zA,↓reduceIte,↓reduceDIte] <;>try simp only [zB]
      rfl
   rw [if_neg h0]
   have h0':(e=0)=False:=eq_false h0
   obtain ⟨p,v,kb⟩:=k
   refine q0q rfl rfl ?_
   refine q0G fi14 ?_
   refine uQ 600 _ ?_
   with_reducible refine sxE ?_
   refine q0a hva ?_
   refine uQ 600 _ ?_
   simp (maxSteps:=3000000) only [f2,f3,f4,f5,go_sem,↓zA,↓reduceIte,↓reduceDIte] <;>try simp only [zB]
   refine eQ [] (hnew) ?_
   refine eQ [2] (hs1) ?_
   refine eQ [2] (hen) ?_
   refine q0a hop ?_
   refine uQ 600 _ ?_
   with_reducible refine sx1 h0' ?_
   rfl
def forceN {α:Type} (x:Nat) (f:Nat→α):α:=match x with
 |0=>f 0
 |n+1=>f (n+1)
theorem q1q {α:Type} (x:Nat) (f:Nat→α):forceN x f=f x:=by cases x<;>rfl
def rotN (n x:Nat):Nat:=x / 2^ n+x*2^ (32-n)%4294967296
def sg0N (x:Nat):Nat:=(rotN 7 x^^^ rotN 18 x) ^^^ (x / 8)
def sg1N (x:Nat):Nat:=(rotN 17 x^^^ rotN 19 x) ^^^ (x / 1024)
def bs0N (x:Nat):Nat:=(rotN 2 x^^^ rotN 13 x) ^^^ rotN 22 x
def bs1N (x:Nat):Nat:=(rotN 6 x^^^ rotN 11 x) ^^^ rotN 25 x
def chN (e f g:Nat):Nat:=(e&&& f) ^^^ ((4294967295-e) &&& g)
def majN (a b c:Nat):Nat:=((a&&& b) ^^^ (a&&& c)) ^^^ (b&&& c)
theorem q3F (n x:Nat):rotW n (x:Int)=(rotN n x:Int):=by
 unfold rotW rotN
 simp
theorem q3f (a b:Nat):xorW (a:Int) (b:Int)=((a^^^ b:Nat):Int):=by simp [xorW]
theorem q9v (a b:Nat):andW (a:Int) (b:Int)=((a&&& b:Nat):Int):=by simp [andW]
theorem j4B (x:Nat):sg0 (x:Int)=(sg0N x:Int):=by
 unfold sg0 sg0N
 rw [q3F,q3F,q3f,show ((x:Int) / 8)=((x / 8:Nat):Int) by simp,q3f]
theorem j4v (x:Nat):sg1 (x:Int)=(sg1N x:Int):=by
 unfold sg1 sg1N
 rw [q3F,q3F,q3f,show ((x:Int) / 1024)=((x / 1024:Nat):Int) by simp,q3f]
theorem j4C (x:Nat):bs0 (x:Int)=(bs0N x:Int):=by
 unfold bs0 bs0N
 rw [q3F,q3F,q3F,q3f,q3f]
theorem j4A (x:Nat):bs1 (x:Int)=(bs1N x:Int):=by
 unfold bs1 bs1N
 rw [q3F,q3F,q3F,q3f,q3f]
theorem j4z {e f g:Nat} (he:e≤4294967295):chW (e:Int) (f:Int) (g:Int)=(chN e f g:Int):=by
 unfold chW chN
 rw [show (4294967295- (e:Int))=((4294967295-e:Nat):Int) by omega,q9v,q9v,q3f]
theorem j3b (a b c:Nat):majW (a:Int) (b:Int) (c:Int)=(majN a b c:Int):=by
 unfold majW majN
 rw [q9v,q9v,q9v,q3f,q3f]
def schedN:Nat→List Nat→List Nat
 |0,l=>l
 |n+1,l=>forceN ((sg1N (l.getD 1 0)+l.getD 6 0+sg0N (l.getD 14 0)+l.getD 15 0)%4294967296) fun w=>schedN n (w :: l)
def wN (b:List UInt8) (t:Nat):Nat:=(wS b t).toNat
theorem q3M (b:List UInt8) (t:Nat):((wN b t:Nat):Int)=wS b t:=by
 have:=q2p b t
 unfold wN;omega
def wsR (b:List UInt8):Nat→List Nat
 |0=>[]
 |t+1=>wN b t :: wsR b t
theorem q5W (b:List UInt8):∀ {t i:Nat},i<t→(wsR b t).getD i 0=wN b (t-1-i)
 |t+1,0,_=>rfl
 |t+1,i+1,h=>by
  show (wsR b t).getD i 0=_
  rw [q5W b (by omega)]
  congr 1
  omega
theorem z3h (b:List UInt8):∀ (n t:Nat),16≤t→schedN n (wsR b t)=wsR b (t+n)
 |0,t,_=>rfl
 |n+1,t,h=>by
  rw [schedN,q1q,q5W b (by omega),q5W b (by omega),q5W b (by omega),q5W b (by omega)]
  have e:(sg1N (wN b (t-1-1))+wN b (t-1-6)+sg0N (wN b (t-1-14))+wN b (t-1-15))%4294967296=wN b t:=by
   have h1:=z0x (b:=b) h
   rw [←q3M,←q3M,←q3M,←q3M,←q3M,j4v,j4B] at h1
   rw [show t-1-1=t-2 by omega,show t-1-6=t-7 by omega,show t-1-14=t-15 by omega,show t-1-15=t-16 by omega]
   unfold W32 at h1
   omega
  rw [e]
  have:=z3h b n (t+1) (by omega)
  rw [show t+1+n=t+ (n+1) by omega] at this
  exact this
def rndN:List Nat→List Nat→Nat→Nat→Nat→Nat→Nat→Nat→Nat→Nat→List Nat
 |k :: ks,w :: ws,a,b,c,d,e,f,g,h=>
  forceN (h+bs1N e+chN e f g+k+w) fun t1=>forceN ((t1+ (bs0N a+majN a b c))%4294967296) fun a'=>forceN ((d+t1)%4294967296) fun e'=>rndN ks ws a' a b c e' e f g
 |_,_,a,b,c,d,e,f,g,h=>[a,b,c,d,e,f,g,h]
def cast8 (l:List Nat):List Int:=l.map fun (n:Nat)=>(n:Int)
theorem j4y {k w a b c d e f g h:Nat} (he:e≤4294967295):rnd (k:Int) (w:Int) (cast8 [a,b,c,d,e,f,g,h])=cast8 [(h+bs1N e+chN e f g+k+w+ (bs0N a+majN a b c))%4294967296,a,b,c,(d+ (h+bs1N e+chN e f g+k+w))%4294967296,e,f,g]:=by
 have h1:t1S (k:Int) (w:Int) (cast8 [a,b,c,d,e,f,g,h])=((h+bs1N e+chN e f g+k+w:Nat):Int):=by
  show (h:Int)+bs1 (e:Int)+chW (e:Int) (f:Int) (g:Int)+k+w=_
  rw [j4A,j4z he];omega
 have h2:t2S (cast8 [a,b,c,d,e,f,g,h])=((bs0N a+majN a b c:Nat):Int):=by
  show bs0 (a:Int)+majW (a:Int) (b:Int) (c:Int)=_
  rw [j4C,j3b];omega
 unfold rnd
 rw [h1,h2]
 simp only [cast8,List.map_cons,List.map_nil,List.getD_cons_zero,List.getD_cons_succ]
 unfold W32
 congr 1
def kN (t:Nat):Nat:=(kS t).toNat
theorem j1i {t:Nat} (h:t<64):((kN t:Nat):Int)=kS t:=by
 have:=j4D t h
 unfold kN;omega
theorem z4F (b:List UInt8) (h:List Int):∀ (n t:Nat) (a b' c d e f g h':Nat),e≤4294967295→t+n≤64→rnds b h t=cast8 [a,b',c,d,e,f,g,h']→
 rnds b h (t+n)=cast8 (rndN ((List.range' t n).map kN) ((List.range' t n).map (wN b)) a b' c d e f g h')
 |0,t,a,b',c,d,e,f,g,h',he,ht,hr=>hr
 |n+1,t,a,b',c,d,e,f,g,h',he,ht,hr=>by
  rw [List.range'_succ,List.map_cons,List.map_cons,rndN,q1q,q1q,q1q]
  have h1:rnds b h (t+1)=rnd (kS t) (wS b t) (rnds b h t):=rfl
  rw [hr,←j1i (by omega),←q3M,j4y he] at h1
  have:=z4F b h n (t+1) _ _ _ _ _ _ _ _ (by omega) (by omega) h1
  rw [show t+1+n=t+ (n+1) by omega] at this
  exact this
def kList:List Nat:=dat_ref04_constants.map Int.toNat
theorem z9f:(List.range' 0 64).map kN=kList:=by decide
theorem z5U (b:List UInt8):∀t,(wsR b t).reverse=(List.range t).map (wN b)
 |0=>rfl
 |t+1=>by rw [wsR,List.reverse_cons,z5U b t,List.range_succ,List.map_append];rfl
def wbN (b:List UInt8) (t:Nat):Nat:=256* (256* (256* (b.getD (4*t) 0).toNat+ (b.getD (4*t+1) 0).toNat)+ (b.getD (4*t+2) 0).toNat)+ (b.getD (4*t+3) 0).toNat
theorem j3J (b:List UInt8) {t:Nat} (h:t<16):wbN b t=wN b t:=by
 have h1:=q3M b t
 rw [z0T h] at h1
 simp only [wdP,byI,Nat.add_zero] at h1
 unfold wbN
 omega
def wbR (b:List UInt8):Nat→List Nat→List Nat
 |0,l=>l
 |n+1,l=>forceN (wbN b (15-n)) fun w=>wbR b n (w :: l)
theorem z9N (b:List UInt8):∀n,n≤16→wbR b n (wsR b (16-n))=wsR b 16
 |0,_=>rfl
 |n+1,h=>by
  rw [wbR,q1q,j3J b (by omega)]
  have:=z9N b n (by omega)
  rw [show 16-n=(15-n)+1 by omega] at this
  rw [show 16- (n+1)=15-n by omega]
  exact this
def blkE (a b c d e f g h:Nat):List Nat→List Nat
 | [x0,x1,x2,x3,x4,x5,x6,x7]=>[(a+x0)%4294967296,(b+x1)%4294967296,(c+x2)%4294967296,(d+x3)%4294967296,(e+x4)%4294967296,(f+x5)%4294967296,(g+x6)%4294967296,(h+x7)%4294967296]
 |_=>[]
def blkN (bl:List UInt8) (a b c d e f g h:Nat):List Nat:=blkE a b c d e f g h (rndN kList (schedN 48 (wbR bl 16 [])).reverse a b c d e f g h)
def blkF (bl:List UInt8):List Nat→List Nat
 | [a,b,c,d,e,f,g,h]=>forceN a fun a=>forceN b fun b=>forceN c fun c=>forceN d fun d=>forceN e fun e=>forceN f fun f=>forceN g fun g=>forceN h fun h=>blkN bl a b c d e f g h
 |_=>[]
theorem z7g (bl:List UInt8) (a b c d e f g h:Nat):blkF bl [a,b,c,d,e,f,g,h]=blkN bl a b c d e f g h:=by
 simp only [blkF,q1q]
theorem j0T (a b c d e f g h:Nat) {r:List Nat} (hr:r.length=8):(blkE a b c d e f g h r).length=8∧∀x∈blkE a b c d e f g h r,x≤4294967295:=by
 match r,hr with
 | [x0,x1,x2,x3,x4,x5,x6,x7],_=>
  refine ⟨rfl,fun x hm=> ?_⟩
  simp only [blkE,List.mem_cons,List.not_mem_nil,or_false] at hm
  rcases hm with rfl|rfl|rfl|rfl|rfl|rfl|rfl|rfl<;>omega
theorem j1d (a b c d e f g h:Nat) {r:List Nat} (hr:r.length=8):((List.range 8).map fun i=>((cast8 [a,b,c,d,e,f,g,h]).getD i 0+ (cast8 r).getD i 0)%W32)=cast8 (blkE a b c d e f g h r):=by
 match r,hr with
 | [x0,x1,x2,x3,x4,x5,x6,x7],_=>simp [cast8,blkE,List.range_succ,W32]
theorem q8b:∀ (ks ws:List Nat) (a b c d e f g h:Nat),(rndN ks ws a b c d e f g h).length=8
 | [],_,a,b,c,d,e,f,g,h=>by unfold rndN;rfl
 |_ :: _,[],a,b,c,d,e,f,g,h=>by unfold rndN;rfl
 |k :: ks,w :: ws,a,b,c,d,e,f,g,h=>by
  rw [rndN,q1q,q1q,q1q]
  exact q8b ks ws _ _ _ _ _ _ _ _
theorem j0u (bl:List UInt8):(List.range' 0 64).map (wN bl)=(schedN 48 (wbR bl 16 [])).reverse:=by
 have h1:wbR bl 16 []=wsR bl 16:=z9N bl 16 (by decide)
 rw [h1,z3h bl 48 16 (by decide),z5U,List.range_eq_range']
theorem j2d (bl:List UInt8) {a b c d e f g h:Nat} (he:e≤4294967295):blkS bl (cast8 [a,b,c,d,e,f,g,h])=cast8 (blkF bl [a,b,c,d,e,f,g,h]):=by
 have h1:=z4F bl (cast8 [a,b,c,d,e,f,g,h]) 64 0 a b c d e f g h he (by decide) rfl
 rw [z9f,j0u] at h1
 rw [z7g]
 unfold blkN blkS
 have h2:=q8b kList (schedN 48 (wbR bl 16 [])).reverse a b c d e f g h
 generalize rndN kList (schedN 48 (wbR bl 16 [])).reverse a b c d e f g h=r at*
 rw [Nat.zero_add] at h1
 rw [h1]
 exact j1d a b c d e f g h h2
def hashF (p:List UInt8):Nat→List Nat
 |0=>[0x6a09e667,0xbb67ae85,0x3c6ef372,0xa54ff53a,0x510e527f,0x9b05688c,0x1f83d9ab,0x5be0cd19]
 |k+1=>blkF ((p.take (64*k+64)).drop (64*k)) (hashF p k)
theorem j0J (bl:List UInt8) {l:List Nat} (h:l.length=8):(blkF bl l).length=8∧∀x∈blkF bl l,x≤4294967295:=by
 match l,h with
 | [a,b,c,d,e,f,g,h],_=>
  rw [z7g]
  exact j0T a b c d e f g h (q8b _ _ _ _ _ _ _ _ _ _)
theorem z2b (p:List UInt8):∀k,(hashF p k).length=8∧∀x∈hashF p k,x≤4294967295
 |0=>⟨rfl,fun x hx=>by simp [hashF] at hx;omega⟩
 |k+1=>j0J _ (z2b p k).1
theorem z2r (p:List UInt8):∀k,hashS p k=cast8 (hashF p k)
 |0=>rfl
 |k+1=>by
  rw [hashS,z2r p k,hashF]
  have h:=z2b p k
  generalize hashF p k=l at*
  match l,h with
  | [a,b,c,d,e,f,g,h'],⟨_,h2⟩=>exact j2d _ (h2 e (by simp))
def wordF (l:List Nat) (i:Nat):UInt8:=UInt8.ofNat ((l.getD (i / 4) 0) / 2^ (24-8* (i%4))%256)
def shaF (b:List UInt8):List UInt8:=(List.range 32).map (wordF (hashF (padS b) (blksN b)))
theorem z5k (b:List UInt8):shaS b=shaF b:=by
 unfold shaS shaF bytesS
 rw [z2r]
 apply List.map_congr_left
 intro i hi
 have key:∀ (l:List Nat) (j:Nat),((cast8 l).getD j 0).toNat=l.getD j 0:=fun l j=>by
  unfold cast8
  rw [List.getD_eq_getElem?_getD,List.getD_eq_getElem?_getD,List.getElem?_map]
  cases l[j]?<;>rfl
 unfold wordB wordF
 rw [key]
def hmF (k b:List UInt8):List UInt8:=shaF (hkS k 92++shaF (hkS k 54++b))
theorem z2g (k b:List UInt8):hmS k b=hmF k b:=by
 unfold hmS hmF
 rw [z5k,z5k]
theorem dk32 {p v:Int} {b:List UInt8} (u use:Nat) (hb:b.length=32):dkS (p,v,b) u use=hmF b (four 1++(four u++ [UInt8.ofNat use])++ [0]++ []++four 256):=by
 rw [←z2g]
 show kdfS b (four u++ [UInt8.ofNat use]) [] b.length=_
 rw [hb]
 show (kacc b (four u++ [UInt8.ofNat use]) [] 32 1).take 32=_
 have h:kacc b (four u++ [UInt8.ofNat use]) [] 32 1=kblk b (four u++ [UInt8.ofNat use]) [] 32 1:=List.nil_append _
 rw [h,List.take_of_length_le (by rw [q3X];decide)]
 rfl
def k32 (c:UInt8):List UInt8:=List.replicate 32 c
theorem q1A (c:UInt8):(k32 c).length=32:=List.length_replicate
def conf16:List UInt8:=List.replicate 16 2
def pln0:List UInt8:=[48,15,160,8,24,6,0,0,0,0,3,232,161,3,2,1,5]
def dEnc:List UInt8:=[39,63,9,154,12,104,197,249,171,54,241,186,242,220,77,25,64,229,80,42,136,174,233,14,165,132,253,146,115,252,52,112]
def dMac:List UInt8:=[146,9,198,93,59,59,11,126,27,87,174,232,9,28,34,130,179,159,8,203,137,70,209,184,101,246,89,22,6,37,137,194]
def dMac3:List UInt8:=[47,87,18,41,60,122,86,67,172,113,227,135,41,56,32,165,204,72,30,67,94,67,96,54,211,146,89,73,61,145,188,135]
def strm:List UInt8:=[181,132,243,161,178,63,11,59,63,54,240,1,150,6,62,120,173,156,250,119,212,83,35,28,47,27,169,124,5,161,141,201]
def ci0:List UInt8:=[2,2,2,2,2,2,2,2,2,2,2,2,2,2,2,2,133,139,83,169,170,57,11,59,63,54,243,233,55,5,60,121,168]
def tag0:List UInt8:=[97,84,42,170,240,106,49,93,238,87,23,236,63,108,25,12,39,164,210,237,73,164,106,39,4,214,196,107,187,15,140,181]
def tag3:List UInt8:=[110,34,77,85,20,15,213,64,236,17,250,5,32,140,111,98,53,3,241,143,27,169,103,40,136,186,13,26,116,159,33,145]
theorem z7d:plnS 1000 5=pln0:=by kernel_rfl
theorem z1I (v:Int):dkS (2,v,k32 1) 1 170=dEnc:=by
 rw [dk32 1 170 (q1A 1)]
 kernel_rfl
theorem z1y (v:Int):dkS (2,v,k32 1) 1 85=dMac:=by
 rw [dk32 1 85 (q1A 1)]
 kernel_rfl
theorem z8g (v:Int):dkS (2,v,k32 3) 1 85=dMac3:=by
 rw [dk32 1 85 (q1A 3)]
 kernel_rfl
theorem j2n:hmS dEnc (conf16++four 1)=strm:=by
 rw [z2g]
 kernel_rfl
theorem z0z:hmS dMac ci0=tag0:=by
 rw [z2g]
 kernel_rfl
theorem j1p:hmS dMac3 ci0=tag3:=by
 rw [z2g]
 kernel_rfl
theorem j0b (v:Int):ciS2 (2,v,k32 1) 1 conf16 (plnS 1000 5)=ci0:=by
 unfold ciS2
 rw [z1I,z7d]
 have h:ksS dEnc conf16 pln0=(List.range 17).map fun i=>pln0.getD i 0^^^ strm.getD i 0:=by
  show (List.range 17).map (ksB dEnc conf16 pln0)=_
  apply List.map_congr_left
  intro i hi
  have hi':i<17:=List.mem_range.1 hi
  unfold ksB
  rw [show i / 32+1=1 by omega,j2n,show i%32=i by omega]
 have h4:conf16++((List.range 17).map fun i=>pln0.getD i 0^^^ strm.getD i 0)=ci0:=by kernel_rfl
 rw [h,h4]
theorem j1b (v:Int):seS2 (2,v,k32 1) 1 conf16 (plnS 1000 5)=ci0++tag0:=by
 unfold seS2
 rw [j0b,z1y,z0z]
def el0:List UInt8:=keyS (2,3,ci0++tag0)
theorem q4I:el0.length=81:=by kernel_rfl
theorem q6p:keyP el0= .ok ((2,3,ci0++tag0),81):=by kernel_rfl
theorem op0 (v:Int) (hv:v=3):opS (2,v,k32 1) 1 2 3 (ci0++tag0)=(pln0,0):=by
 subst hv
 rw [q8J]
 unfold opS2
 rw [if_pos (by decide),if_pos (by decide),if_neg (by decide),if_neg (by decide)]
 have e1:(ci0++tag0).take ((ci0++tag0).length-32)=ci0:=by kernel_rfl
 have e2:(ci0++tag0).drop ((ci0++tag0).length-32)=tag0:=by kernel_rfl
 rw [e1,e2,z1y,z0z,if_pos rfl,z1I]
 have h:ksS dEnc (ci0.take 16) (ci0.drop 16)=pln0:=by
  have h1:=j0b 3
  unfold ciS2 at h1
  rw [z1I,z7d] at h1
  have h2:ci0.take 16=conf16:=by kernel_rfl
  have h3:ci0.drop 16=ksS dEnc conf16 pln0:=by
   rw [←h1]
   exact List.drop_left' rfl
  rw [h2,h3]
  exact z7e dEnc conf16 pln0
 rw [h]
theorem op3:opS (2,3,k32 3) 1 2 3 (ci0++tag0)=([],10):=by
 rw [q8J]
 unfold opS2
 rw [if_pos (by decide),if_pos (by decide),if_neg (by decide),if_neg (by decide)]
 have e1:(ci0++tag0).take ((ci0++tag0).length-32)=ci0:=by kernel_rfl
 have e2:(ci0++tag0).drop ((ci0++tag0).length-32)=tag0:=by kernel_rfl
 rw [e1,e2,z8g,j1p,if_neg (by decide)]
theorem rd0:rdT pln0= .ok (1000,5):=by kernel_rfl
end Go.Proofs.YtikapabgggphpaaGreatDoor
