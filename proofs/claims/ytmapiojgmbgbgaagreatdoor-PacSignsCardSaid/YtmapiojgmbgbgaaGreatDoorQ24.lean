/- Authorisation data: reading. -/
import Derived.Test.YtmapiojgmbgbgaaGreatDoorQ23
import Derived.Deep.Draws
import Derived.Sort.Grow
set_option linter.all false
namespace Go.Proofs.YtmapiojgmbgbgaaGreatDoor
open Go Go.Sx Go.Proofs
set_option maxRecDepth 100000
set_option maxHeartbeats 4000000
def effO{α:Type}(res:α→SV):Except Nat (α×Nat)→Out
 |.ok (v,_)=>.ret (res v)
 |.error _=>.pan wrongV
theorem z4R{P:Program}{α:Type}{f:FuncId}{args:List SV}{b:List UInt8}{n:Nat}{E:List SObj}{res:α→SV}{upd:α→List SObj}{x:Except Nat (α×Nat)}(hl:∀v,E.length≤(upd v).length)(h:VC P f args (rdr b n :: E) (SealO (effO res x) (effH b n E upd x))):Eff P f args b n E res upd x:=by
 cases x with
 |error e=>exact q0b (by simp [effH]) h
 |ok y=>obtain ⟨v,k⟩:=y;exact q0b (by simp [effH];exact hl v) h
attribute [go_sem] effO effH
theorem z1m(v:Prin):PC Tryz.prog 127 [.agg (PrinT.cells v),rI 0] (.agg (PrinT.cells v)):=by
 refine q0f rfl rfl ?_;refine rQ fi127 ?_;refine q0r (fun _=> ?_) fun h=>absurd h (by decide)
 refine gQ ?_;trivial
theorem q6I(e:Nat)(he:e≠0):PE Tryz.prog 127 [zPrin,rI e] [] (.pan wrongV) []:=by
 refine q0b (by simp) ?_
 refine rQ fi127 ?_;refine q0r (fun h=>absurd h (by simp;omega)) fun _=> ?_
 with_reducible refine sxE ?_;trivial
theorem z3G{α:Type}(g:Nat)(i:Nat)(hi:i≤30)(b:List UInt8)(n:Nat)(hn:n≤b.length)(hb:b.length≤1099511627776)(T:TypeId)(cs:List SV)(hc:Cln cs)(p:PR α)(hp:FitsP p)(upd:α→List SV)(hu:∀v,Cln (upd v))(d:α)(hd:SV.leAL cs (upd d))
 (hg:Eff Tryz.prog g [.agg [.ptr 0 0],.ptr 1 0] (takeC (b.drop n)) 0 [.cells T cs] (fun _=>.tup []) (fun v=>[.cells T (upd v)]) (p (takeC (b.drop n)))):
 Eff Tryz.prog 134 [.agg [.ptr 0 0],rI i,.fn g [] [.ptr 1 0]] b n [.cells T cs] (fun _=>rB (nextB i (b.drop n))) (fun v=>[.cells T (upd v)]) (dfltP d i p (b.drop n)):=by
 cases h:nextB i (b.drop n) with
 |false=>
  rw [z5k h];have w1:=z1Y hc;have hs:=q6u i hi b n hn h;refine q0b (by simp) ?_
  refine rQ fi134 ?_;refine effC mixed [0] (hs) w1 ?_;refine q0r (fun _=> ?_) fun h=>absurd h (by decide)
  refine gy2 w1 hd ?_;rfl
 |true=>
  rw [z3T h];exact z1w g i hi b n hn hb T cs hc p hp upd hu hg h
@[go_sem] abbrev paO(cs:List SV):SObj:=.cells 28 cs
@[go_sem] abbrev pa0:List SV:=[.raw (.slice none 0 0),rS ⟨#[]⟩,rI 0,rI 0,.raw (.slice none 0 0),.raw (.slice none 0 0)]
@[go_sem] abbrev pa1(c:Prin)(a u:Int):List SV:=[.isl .str c.1,rS c.2,rI a,rI u,.raw (.slice none 0 0),.raw (.slice none 0 0)]
@[go_sem] abbrev pa4(c:Prin)(a u:Int)(g:List Int):List SV:=[.isl .str c.1,rS c.2,rI a,rI u,.isl I64 g,.raw (.slice none 0 0)]
theorem z8F:Cln pa0:=q0s (q0s (q0s (q0s (q0s (q0s q3s)))))
theorem q4Y(c:Prin)(a u:Int):Cln (pa1 c a u):=q2y (q0s (q0s (q0s (q0s (q0s q3s)))))
theorem z0B(c:Prin)(a u:Int)(g:List Int):Cln (pa4 c a u g):=q2y (q0s (q0s (q0s (q2y (q0s q3s)))))

theorem j5l(b:List UInt8)(n:Nat)(hn:n≤b.length)(hb:b.length≤1099511627776):
 Eff Tryz.prog 126 [.agg [.ptr 0 0],.ptr 1 0] b n [paO pa0] (fun _=>.tup []) (fun v:Prin=>[paO (pa1 v 0 0)]) (nameP (b.drop n)):=by
 have hr0:=z7t b n hn hb;cases hx:nameP (b.drop n) with
 |error e=>
  have hr:=q7H hr0 hx;refine q0b (by simp) ?_
  refine rQ fi126 ?_;refine eQ [0] (hr) ?_;refine effP [] (q6I e (z4r _ _ hx)) ?_;trivial
 |ok x=>
  obtain ⟨v,k⟩:=x;have hr:=q7Y hr0 hx;refine q0b (by simp) ?_
  refine rQ fi126 ?_;refine eQ [0] (hr) ?_;refine cQ (z1m _) ?_;trivial

theorem j6l(b:List UInt8)(n:Nat)(hn:n≤b.length)(hb:b.length≤1099511627776)(c:Prin):
 Eff Tryz.prog 129 [.agg [.ptr 0 0],.ptr 1 0] b n [paO (pa1 c 0 0)] (fun _=>.tup []) (fun v:Nat=>[paO (pa1 c (v:Nat) 0)]) (timeP (b.drop n)):=by
 cases hx:timeP (b.drop n) with
 |error e=>
  have hr:=j1b b n hn hb hx;refine q0b (by simp) ?_
  refine rQ fi129 ?_;refine eQ [0] (hr) ?_;refine effP [] (q4X _ e (q6L hx)) ?_;trivial
 |ok x=>
  obtain ⟨v,k⟩:=x;have hr:=z9S b n hn hb hx;refine q0b (by simp) ?_
  refine rQ fi129 ?_;refine eQ [0] (hr) ?_;refine cQ (q9q _) ?_;trivial

theorem j5a(b:List UInt8)(n:Nat)(hn:n≤b.length)(hb:b.length≤1099511627776)(c:Prin)(a:Int):
 Eff Tryz.prog 132 [.agg [.ptr 0 0],.ptr 1 0] b n [paO (pa1 c a 0)] (fun _=>.tup []) (fun v:Int=>[paO (pa1 c a v)]) (intP (b.drop n)):=by
 cases hx:intP (b.drop n) with
 |error e=>
  have hr:=z2r b n hn hb hx;refine q0b (by simp) ?_
  refine rQ fi132 ?_;refine eQ [0] (hr) ?_;refine effP [] (q4X _ e (q6L hx)) ?_;trivial
 |ok x=>
  obtain ⟨v,k⟩:=x;have hr:=z2W b n hn hb hx;refine q0b (by simp) ?_
  refine rQ fi132 ?_;refine eQ [0] (hr) ?_;refine cQ (q9q _) ?_;trivial

theorem j5Z(b:List UInt8)(n:Nat)(hn:n≤b.length)(hb:b.length≤1099511627776)(c:Prin)(a u:Int):
 Eff Tryz.prog 136 [.agg [.ptr 0 0],.ptr 1 0] b n [paO (pa1 c a u)] (fun _=>.tup []) (fun l=>[paO (pa4 c a u l)]) (listP intP 64 (b.drop n)):=by
 refine z4R (fun _=>Ag _) ?_;generalize hx:listP intP 64 (b.drop n)=X;refine rQ fi136 ?_;refine q1E 1 4 (I64) rfl rfl rfl ?_;with_reducible refine sxE ?_
 refine q0i (ι:=Nat×List (I64).den×List SObj) (fun s=>[]) (fun s=>[rdr b s.1,paO [.isl .str c.1,rS c.2,rI a,rI u,.bld (s.2.2.length+3) I64 s.2.1.length,.raw (.slice none 0 0)],.cells 96 [.ptr 0 0]]++s.2.2++ [.row (I64) s.2.1]) (fun s=>130-s.2.1.length) (fun s=>s.2.1.length≤64∧n≤s.1∧s.1≤b.length∧X=tailP s.2.1 (s.1-n) (listP intP (64-s.2.1.length) (b.drop s.1))) (n,[],[]) ⟨Ak _,Ag _,hn,?_⟩ rfl ?_ ?_
 · rw [Nat.sub_self,z0k];exact hx.symm
 · with_reducible refine sxE ?_;trivial
 rintro ⟨k,xs,G⟩ ⟨h1,h2,h3,h4⟩;dsimp only at h1 h2 h3 h4;have hleft:=q2S b k h3;refine aQ ?_;refine q0P [0] hleft rfl (by decide) ⟨rfl,rfl,trivial⟩ rfl rfl ?_
 simp only [afterO,Out.ren,SV.ren,mgA,sig,SObj.ren,SV.renL,Az,Au,List.append_assoc,BA,BB,List.set,List.map,Ai];refine aQ ?_;refine ⟨fun hp0=>q0r (fun hmo=> ?_) (fun hmo=> ?_),fun hp0=> ?_⟩
 · have hlt:xs.length<64:=by have:=of_decide_eq_true hmo;omega
   have hkl:k<b.length:=by omega
   refine uQ 1 _ ?_;with_reducible refine sxaE ?_
   refine q2t [1,2] mixed ?_;refine aQ ?_;cases hpk:intP (b.drop k) with
   |error e=>
    have hg':=z2r b k h3 hb hpk;have hX:=h4.trans (q7n hkl (by omega) hpk)
    rw [hX];refine q0M [0] hg' rfl (by decide) ⟨rfl,rfl,trivial⟩ rfl rfl ?_ ?_
    · simp (maxSteps:=3000000) only [mgA,sig,q1q,q1H,List.append_assoc,getA,getA0,setA,setA0,Ac,Nat.add_assoc,go_sem,↓zA,↓reduceIte,↓reduceDIte] <;>try simp only [zB]
    refine rnE ?_;refine aQ ?_;refine q0M [] (q4X _ e (q6L hpk)) rfl (by decide) trivial rfl rfl ?_ ?_
    · simp (maxSteps:=3000000) only [mgA,sig,q1q,q1H,List.append_assoc,getA,getA0,setA,setA0,Ac,Nat.add_assoc,go_sem,↓zA,↓reduceIte,↓reduceDIte] <;>try simp only [zB]
    simp only [afterR,Out.ren,SV.ren,mgA,sig,SObj.ren,SV.renL,Az,Au,List.append_assoc,BA,BB,List.set,List.map,Ai,effO,effH];with_reducible refine sxaE ?_;trivial
   |ok y=>
    obtain ⟨v,m⟩:=y;have hg':=z2W b k h3 hb hpk;have hfit:=q3O _ _ _ hpk;rw [Al] at hfit;have hX:=h4.trans (q6c hkl (by omega) hpk)
    refine q0M [0] hg' rfl (by decide) ⟨rfl,rfl,trivial⟩ rfl rfl ?_ ?_
    · simp (maxSteps:=3000000) only [mgA,sig,q1q,q1H,List.append_assoc,getA,getA0,setA,setA0,Ac,Nat.add_assoc,go_sem,↓zA,↓reduceIte,↓reduceDIte] <;>try simp only [zB]
    refine rnE ?_;refine aQ ?_;refine q0d (q9q _) ?_;refine aQ ?_;refine ⟨⟨by omega,by omega⟩,(k+m,xs++ [v],G++ [.dead,.row I64 [v]]),⟨by simp;omega,by dsimp only;omega,by dsimp only;omega,?_⟩,by simp;omega,?_,?_⟩
    · dsimp only;rw [hX,Ac,Bo,Nat.sub_sub];congr 1;omega
    · simp
    with_reducible refine sxaE ?_;trivial
 · have hlt:¬xs.length<64:=by have:=of_decide_eq_false hmo;omega
   have hm0:64-xs.length=0:=by omega
   rw [hm0] at h4;have hX:=h4.trans (q8Y (by omega))
   rw [hX];simp (maxSteps:=3000000) only [effO,effH,List.append_assoc,getA,getA0,setA,setA0,Ac,Nat.add_assoc,go_sem,↓zA,↓reduceIte,↓reduceDIte] <;>try simp only [zB]
 have hX:=h4.trans (q8n (by omega))
 rw [hX];simp (maxSteps:=3000000) only [effO,effH,List.append_assoc,getA,getA0,setA,setA0,Ac,Nat.add_assoc,go_sem,↓zA,↓reduceIte,↓reduceDIte] <;>try simp only [zB]
 rw [if_neg (by omega)]
 with_reducible refine sxE ?_
 refine ⟨congrArg (Value.int .i64) (by omega),⟨Ag _,by omega⟩,Aa (Ag _)⟩

theorem j5K(b:List UInt8)(n:Nat)(hn:n≤b.length)(hb:b.length≤1099511627776)(c:Prin)(a u:Int)(g:List Int):
 Eff Tryz.prog 139 [.agg [.ptr 0 0],.ptr 1 0] b n [paO (pa4 c a u g)] (fun _=>.tup []) (fun l=>[paO (PacT.cells ((c,a,u,g,l):Pac))]) (listP nameP 16 (b.drop n)):=by
 refine z4R (fun _=>Ag _) ?_;generalize hx:listP nameP 16 (b.drop n)=X;refine rQ fi139 ?_;refine q1E 1 5 (PrinT) rfl rfl rfl ?_;with_reducible refine sxE ?_
 refine q0i (ι:=Nat×List (PrinT).den×List SObj) (fun s=>[]) (fun s=>[rdr b s.1,paO [.isl .str c.1,rS c.2,rI a,rI u,.isl I64 g,.bld (s.2.2.length+3) PrinT s.2.1.length],.cells 96 [.ptr 0 0]]++s.2.2++ [.row (PrinT) s.2.1]) (fun s=>34-s.2.1.length) (fun s=>s.2.1.length≤16∧n≤s.1∧s.1≤b.length∧X=tailP s.2.1 (s.1-n) (listP nameP (16-s.2.1.length) (b.drop s.1))) (n,[],[]) ⟨Ak _,Ag _,hn,?_⟩ rfl ?_ ?_
 · rw [Nat.sub_self,z0k];exact hx.symm
 · with_reducible refine sxE ?_;trivial
 rintro ⟨k,xs,G⟩ ⟨h1,h2,h3,h4⟩;dsimp only at h1 h2 h3 h4;have hleft:=q2S b k h3;refine aQ ?_;refine q0P [0] hleft rfl (by decide) ⟨rfl,rfl,trivial⟩ rfl rfl ?_
 simp only [afterO,Out.ren,SV.ren,mgA,sig,SObj.ren,SV.renL,Az,Au,List.append_assoc,BA,BB,List.set,List.map,Ai];refine aQ ?_;refine ⟨fun hp0=>q0r (fun hmo=> ?_) (fun hmo=> ?_),fun hp0=> ?_⟩
 · have hlt:xs.length<16:=by have:=of_decide_eq_true hmo;omega
   have hkl:k<b.length:=by omega
   refine uQ 1 _ ?_;with_reducible refine sxaE ?_
   refine q2t [1,2] mixed ?_;refine aQ ?_;cases hpk:nameP (b.drop k) with
   |error e=>
    have hg':=q7H (z7t b k h3 hb) hpk;have hX:=h4.trans (q7n hkl (by omega) hpk)
    rw [hX];refine q0M [0] hg' rfl (by decide) ⟨rfl,rfl,trivial⟩ rfl rfl ?_ ?_
    · simp (maxSteps:=3000000) only [mgA,sig,q1q,q1H,List.append_assoc,getA,getA0,setA,setA0,Ac,Nat.add_assoc,go_sem,↓zA,↓reduceIte,↓reduceDIte] <;>try simp only [zB]
    refine rnE ?_;refine aQ ?_;refine q0M [] (q6I e (z4r _ _ hpk)) rfl (by decide) trivial rfl rfl ?_ ?_
    · simp (maxSteps:=3000000) only [mgA,sig,q1q,q1H,List.append_assoc,getA,getA0,setA,setA0,Ac,Nat.add_assoc,go_sem,↓zA,↓reduceIte,↓reduceDIte] <;>try simp only [zB]
    simp only [afterR,Out.ren,SV.ren,mgA,sig,SObj.ren,SV.renL,Az,Au,List.append_assoc,BA,BB,List.set,List.map,Ai,effO,effH];with_reducible refine sxaE ?_;trivial
   |ok y=>
    obtain ⟨v,m⟩:=y;have hg':=q7Y (z7t b k h3 hb) hpk;have hfit:=q5U _ _ _ hpk;rw [Al] at hfit;have hX:=h4.trans (q6c hkl (by omega) hpk)
    refine q0M [0] hg' rfl (by decide) ⟨rfl,rfl,trivial⟩ rfl rfl ?_ ?_
    · simp (maxSteps:=3000000) only [mgA,sig,q1q,q1H,List.append_assoc,getA,getA0,setA,setA0,Ac,Nat.add_assoc,go_sem,↓zA,↓reduceIte,↓reduceDIte] <;>try simp only [zB]
    refine rnE ?_;refine aQ ?_;refine q0d (z1m _) ?_;refine aQ ?_;refine ⟨(q9T _ _ _ (by rw [List.length_drop];omega) hpk).2,⟨by omega,by omega⟩,(k+m,xs++ [v],G++ [.dead,.row PrinT [v]]),⟨by simp;omega,by dsimp only;omega,by dsimp only;omega,?_⟩,by simp;omega,?_,?_⟩
    · dsimp only;rw [hX,Ac,Bo,Nat.sub_sub];congr 1;omega
    · simp
    with_reducible refine sxaE ?_;trivial
 · have hlt:¬xs.length<16:=by have:=of_decide_eq_false hmo;omega
   have hm0:16-xs.length=0:=by omega
   rw [hm0] at h4;have hX:=h4.trans (q8Y (by omega))
   rw [hX];simp (maxSteps:=3000000) only [effO,effH,List.append_assoc,getA,getA0,setA,setA0,Ac,Nat.add_assoc,go_sem,↓zA,↓reduceIte,↓reduceDIte] <;>try simp only [zB]
 have hX:=h4.trans (q8n (by omega))
 rw [hX];simp (maxSteps:=3000000) only [effO,effH,List.append_assoc,getA,getA0,setA,setA0,Ac,Nat.add_assoc,go_sem,↓zA,↓reduceIte,↓reduceDIte] <;>try simp only [zB]
 rw [if_neg (by omega)]
 with_reducible refine sxE ?_
 refine ⟨congrArg (Value.int .i64) (by omega),⟨Ag _,by omega⟩,Aa (Ag _)⟩

theorem j6E(b:List UInt8)(n:Nat)(hn:n≤b.length)(hb:b.length≤1099511627776)(c:Prin)(a u:Int):
 Eff Tryz.prog 135 [.agg [.ptr 0 0],.ptr 1 0] b n [paO (pa1 c a u)] (fun _=>.tup []) (fun l:List Int=>[paO (pa4 c a u l)]) (inP 48 (listP intP 64) (b.drop n)):=by
 have h1:=j5Z (takeC (b.drop n)) 0 (Ak _) (q1u hb) c a u;rw [As] at h1;have hs:=sequence1 136 b n hn hb 28 _ (q4Y c a u) (listP intP 64) (q5R q3O 64) (fun l:List Int=>pa4 c a u l) (fun l=>z0B c a u l) h1;cases hx:inP 48 (listP intP 64) (b.drop n) with
 |error e=>
  have hm':=q2v hs hx;refine q0b (by simp) ?_
  refine rQ fi135 ?_;refine effP [0,1] (hm') ?_;trivial
 |ok x=>
  obtain ⟨v,k⟩:=x;have hm':=q2e hs hx;refine q0b (by simp) ?_
  refine rQ fi135 ?_;refine eQ [0,1] (hm') ?_;trivial

theorem j6z(b:List UInt8)(n:Nat)(hn:n≤b.length)(hb:b.length≤1099511627776)(c:Prin)(a u:Int)(g:List Int):
 Eff Tryz.prog 138 [.agg [.ptr 0 0],.ptr 1 0] b n [paO (pa4 c a u g)] (fun _=>.tup []) (fun l:List Prin=>[paO (PacT.cells ((c,a,u,g,l):Pac))]) (inP 48 (listP nameP 16) (b.drop n)):=by
 have h1:=j5K (takeC (b.drop n)) 0 (Ak _) (q1u hb) c a u g;rw [As] at h1;have hs:=sequence1 139 b n hn hb 28 _ (z0B c a u g) (listP nameP 16) (q5R q5U 16) (fun l:List Prin=>PacT.cells ((c,a,u,g,l):Pac)) (fun l=>z1j PacT (c,a,u,g,l)) h1;cases hx:inP 48 (listP nameP 16) (b.drop n) with
 |error e=>
  have hm':=q2v hs hx;refine q0b (by simp) ?_
  refine rQ fi138 ?_;refine effP [0,1] (hm') ?_;trivial
 |ok x=>
  obtain ⟨v,k⟩:=x;have hm':=q2e hs hx;refine q0b (by simp) ?_
  refine rQ fi138 ?_;refine eQ [0,1] (hm') ?_;trivial

theorem j6s(c:Prin)(a u:Int):SV.leAL (pa1 c a u) (pa4 c a u []):=by
 simp [q1K,q7g,q9J,z2V,q9u]
theorem j5F(c:Prin)(a u:Int)(g:List Int):SV.leAL (pa4 c a u g) (PacT.cells ((c,a,u,g,[]):Pac)):=by
 simp [Ty.cells,q1K,q7g,q9J,z2V,q9u]
def grpsP:PR (List Int):=inP 48 (listP intP 64)
def pacIn:PR Pac:=bindP (needP 0 nameP) fun c=>bindP (needP 1 timeP) fun a=>bindP (needP 2 intP) fun u=>bindP (dfltP [] 3 grpsP) fun g=>bindP (dfltP [] 4 nmsP) fun l=>retP ((c,((a:Nat):Int),u,g,l):Pac)
def pacP:PR Pac:=inP 48 pacIn
theorem z5r:FitsP pacIn:=q1U q0J fun _=>q1U q0J fun _=>q1U q0J fun _=>q1U q4k fun _=>q1U q4k fun _=>z1P
theorem j6A(b:List UInt8)(n:Nat)(hn:n≤b.length)(hb:b.length≤1099511627776):
 Eff Tryz.prog 125 [.agg [.ptr 0 0],.ptr 1 0] b n [paO pa0] (fun _=>.tup []) (fun p=>[paO (PacT.cells p)]) (pacIn (b.drop n)):=by
 refine z4R (fun _=>Ag _) ?_;obtain ⟨X,hX0⟩:∃X,X=pacIn (b.drop n):=⟨_,rfl⟩;rw [←hX0];have hX:=hX0.trans z7g;clear hX0;unfold pacIn at hX;refine rQ fi125 ?_;have c1:=need1 126 0 (by omega) b (n) hn hb 28 _ z8F nameP q5U _ (fun p=>q4Y p 0 0) (by have h:=j5l (takeC (b.drop (n))) 0 (Ak _) (q1u hb);rwa [As] at h)
 rcases h1:needP 0 nameP (b.drop (n)) with e| ⟨v1,k1⟩
 · have c1':=q2v c1 h1;obtain rfl:=q4e hX h1;refine effP [0,1] (c1') ?_;trivial
 replace hX:=q3W hX h1;have c1':=q2e c1 h1;have f1:=q2M q0J hn h1;refine eQ [0,1] (c1') ?_;have c2:=need1 129 1 (by omega) b (n+k1) f1 hb 28 _ (q4Y v1 0 0) timeP q3O _ (fun p=>q4Y v1 (p:Nat) 0) (by have h:=j6l (takeC (b.drop (n+k1))) 0 (Ak _) (q1u hb) v1;rwa [As] at h)
 rcases h2:needP 1 timeP (b.drop (n+k1)) with e| ⟨v2,k2⟩
 · have c2':=q2v c2 h2;obtain rfl:=q4e hX h2;refine effP [0,1] (c2') ?_;trivial
 replace hX:=q3W hX h2;have c2':=q2e c2 h2;have f2:=q2M q0J f1 h2;refine eQ [0,1] (c2') ?_;have c3:=need1 132 2 (by omega) b (n+k1+k2) f2 hb 28 _ (q4Y v1 (v2:Nat) 0) intP q3O _ (fun p=>q4Y v1 (v2:Nat) p) (by have h:=j5a (takeC (b.drop (n+k1+k2))) 0 (Ak _) (q1u hb) v1 (v2:Nat);rwa [As] at h)
 rcases h3:needP 2 intP (b.drop (n+k1+k2)) with e| ⟨v3,k3⟩
 · have c3':=q2v c3 h3;obtain rfl:=q4e hX h3;refine effP [0,1] (c3') ?_;trivial
 replace hX:=q3W hX h3;have c3':=q2e c3 h3;have f3:=q2M q0J f2 h3;refine eQ [0,1] (c3') ?_;have c4:=z3G 135 3 (by omega) b (n+k1+k2+k3) f3 hb 28 _ (q4Y v1 (v2:Nat) v3) grpsP q2B _ (fun p=>z0B v1 (v2:Nat) v3 p) [] (j6s _ _ _) (by have h:=j6E (takeC (b.drop (n+k1+k2+k3))) 0 (Ak _) (q1u hb) v1 (v2:Nat) v3;rwa [As] at h)
 rcases h4:dfltP [] 3 grpsP (b.drop (n+k1+k2+k3)) with e| ⟨v4,k4⟩
 · have c4':=q2v c4 h4;obtain rfl:=q4e hX h4;refine effP [0,1] (c4') ?_;trivial
 replace hX:=q3W hX h4;have c4':=q2e c4 h4;have f4:=q2M q4k f3 h4;refine eQ [0,1] (c4') ?_;have c5:=z3G 138 4 (by omega) b (n+k1+k2+k3+k4) f4 hb 28 _ (z0B v1 (v2:Nat) v3 v4) nmsP q2B _ (fun p=>z1j PacT (v1,((v2:Nat):Int),v3,v4,p)) [] (j5F _ _ _ _) (by have h:=j6z (takeC (b.drop (n+k1+k2+k3+k4))) 0 (Ak _) (q1u hb) v1 (v2:Nat) v3 v4;rwa [As] at h)
 rcases h5:dfltP [] 4 nmsP (b.drop (n+k1+k2+k3+k4)) with e| ⟨v5,k5⟩
 · have c5':=q2v c5 h5;obtain rfl:=q4e hX h5;refine effP [0,1] (c5') ?_;trivial
 replace hX:=q3W hX h5;have c5':=q2e c5 h5;have f5:=q2M q4k f4 h5;refine eQ [0,1] (c5') ?_;subst hX;simp only [shiftP,retP];with_reducible refine sxE ?_
 exact congrArg (Value.int .i64) (by omega)
theorem j5S(b:List UInt8)(n:Nat)(hn:n≤b.length)(hb:b.length≤1099511627776):
 Eff Tryz.prog 71 [.agg [.ptr 0 0]] b n [] (fun p=>.agg (PacT.cells p)) (fun _=>[]) (pacP (b.drop n)):=by
 have h1:=j6A (takeC (b.drop n)) 0 (Ak _) (q1u hb);rw [As] at h1;have hs:=sequence1 125 b n hn hb 28 _ z8F pacIn z5r (fun p=>PacT.cells p) (fun p=>z1j PacT p) h1;change Eff _ _ _ _ _ _ _ _ (pacP (b.drop n)) at hs;cases hx:pacP (b.drop n) with
 |error e=>
  have hm':=q2v hs hx;refine q0b (by simp) ?_
  refine rQ fi71 ?_;refine effP [0,2] (hm') ?_;trivial
 |ok x=>
  obtain ⟨v,q⟩:=x;have hm':=q2e hs hx;refine q0b (by simp) ?_
  refine rQ fi71 ?_;refine eQ [0,2] (hm') ?_;trivial
theorem j3g:OkP pacP PacT.ok:=
 q9k (q2c (q3y q9T) fun _ h0=>q2c (Q1:=fun _=>True) q5E fun _ _=>q2c (Q1:=fun _=>True) q5E fun _ _=>q2c (z4Z (Q:=(Ty.slice I64).ok) q7v (j4Z (t:=I64) 64 (by omega) q5E)) fun _ h3=>q2c (z4Z (Q:=(Ty.slice PrinT).ok) q7v (j4Z (t:=PrinT) 16 (by omega) q9T)) fun _ h4=>z3c ⟨h0,trivial,trivial,h3,h4⟩)
def decPc(b:List UInt8):Option (PacT).den:=match allP pacP b with
 |.ok f=>if vPac f=true∧pacS f=b then some f else none
 |.error _=>none
abbrev SgT:Ty:=.prod PacT (.prod KeyT KeyT)
abbrev Sgd:=SgT.den
theorem j5V(p:Int):PC Tryz.prog 167 [rI p] (rI (keyLen p)):=by
 refine q0p rfl rfl ?_;refine rQ fi167 ?_;refine q0a z8u ?_;by_cases h1:p=1
 · subst h1;refine uQ 600 _ ?_;simp (maxSteps:=3000000) only [kind1,keyLen,go_sem,↓zA,↓reduceIte,↓reduceDIte] <;>try simp only [zB]
 by_cases h2:p=2
 · subst h2;refine uQ 600 _ ?_;simp (maxSteps:=3000000) only [kind2,keyLen,go_sem,↓zA,↓reduceIte,↓reduceDIte] <;>try simp only [zB]
 refine uQ 600 _ ?_;simp (maxSteps:=3000000) only [h1,h2,keyLen,go_sem,↓zA,↓reduceIte,↓reduceDIte] <;>try simp only [zB]
theorem j1T(s:Key):PC Tryz.prog 113 [.agg (KeyT.cells s)] (rB (vKey s)):=by
 obtain ⟨p,v,b⟩:=s;have hk:=j5V p;unfold vKey;generalize keyLen p=n at*;refine q0p rfl rfl ?_;refine rQ fi113 ?_;refine cQ hk ?_
 grind
def vSgn(x:Sgd):Bool:=vPac x.1&& (vKey x.2.1&& vKey x.2.2)
theorem j5y(x:Sgd)(ho:SgT.ok x):PC Tryz.prog 53 [.agg (SgT.cells x)] (rB (vSgn x)):=by
 have h1:=q4v x.1 ho.1;have h2:=j1T x.2.1;have h3:=j1T x.2.2;unfold vSgn;generalize vPac x.1=v1 at*;generalize vKey x.2.1=v2 at*;generalize vKey x.2.2=v3 at*;obtain ⟨⟨c,a,u,g,w⟩,⟨p1,p2,p3⟩,⟨q1,q2,q3⟩⟩:=x;refine q0p rfl rfl ?_;refine rQ fi53 ?_;refine cQ (h1) ?_;refine ⟨fun h1=> ?_,fun h1=> ?_⟩
 rotate_left
 · first| (simp only [AE,h1,AR,BH];done) |simp [AE,h1]
 refine cQ (h2) ?_;refine ⟨fun h2=> ?_,fun h2=> ?_⟩
 rotate_left
 · first| (simp only [AE,h2,AR,BH];done) |simp [AE,h2]
 refine cQ h3 ?_;simp [*]
def sgnS(x:Sgd):List UInt8:=elemS 48 [wrapS 160 0 (pacS x.1),wrapS 160 1 (keyS x.2.1),wrapS 160 2 (keyS x.2.2)]
theorem j2c(x:Sgd)(ho:SgT.ok x)(hv:vSgn x=true):PC Tryz.prog 46 [.agg (SgT.cells x)] (.isl .u8 (sgnS x)):=by
 have h1:=q4z x.1 ho.1 (by simp only [vSgn,Aj] at hv;exact hv.1)
 clear hv;obtain ⟨p,k1,k2⟩:=x;have hE:sgnS (p,k1,k2)=elemS 48 [wrapS 160 0 (pacS p),wrapS 160 1 (keyS k1),wrapS 160 2 (keyS k2)]:=rfl;rw [hE];dsimp only at h1;generalize pacS p=w at*;have h2:=z1H k1;have h3:=z1H k2;generalize keyS k1=y1 at*;generalize keyS k2=y2 at*;obtain ⟨c,a,u,g,l⟩:=p;obtain ⟨p1,p2,p3⟩:=k1;obtain ⟨q1,q2,q3⟩:=k2;refine q0f rfl rfl ?_;refine rQ fi46 ?_;refine cR h1 ?_;refine cR (q1W _ _) ?_;refine cR h2 ?_;refine cR (q1W _ _) ?_;refine cR h3 ?_;refine cR (q1W _ _) ?_;refine q0A 1 (by decide) ?_
 with_reducible refine sxE ?_
 refine cR (q2l _ (by simp)) ?_;trivial
theorem z0U(v:Key):PC Tryz.prog 110 [.agg (KeyT.cells v),rI 0] (.agg (KeyT.cells v)):=by
 refine q0f rfl rfl ?_;refine rQ fi110 ?_;refine q0r (fun _=> ?_) fun h=>absurd h (by decide)
 refine gQ ?_;trivial
theorem q6C(e:Nat)(he:e≠0):PE Tryz.prog 110 [zKey,rI e] [] (.pan wrongV) []:=by
 refine q0b (by simp) ?_
 refine rQ fi110 ?_;refine q0r (fun h=>absurd h (by simp;omega)) fun _=> ?_
 with_reducible refine sxE ?_;trivial
@[go_sem] abbrev sdOb(cs:List SV):SObj:=.cells 84 cs
@[go_sem] abbrev sd0v:List SV:=[.raw (.slice none 0 0),rS ⟨#[]⟩,rI 0,rI 0,.raw (.slice none 0 0),.raw (.slice none 0 0),rI 0,rI 0,.raw (.slice none 0 0),rI 0,rI 0,.raw (.slice none 0 0)]
@[go_sem] abbrev sd1v(p:Pac):List SV:=[.isl .str p.1.1,rS p.1.2,rI p.2.1,rI p.2.2.1,.isl I64 p.2.2.2.1,.isl PrinT p.2.2.2.2,rI 0,rI 0,.raw (.slice none 0 0),rI 0,rI 0,.raw (.slice none 0 0)]
@[go_sem] abbrev sd2v(p:Pac)(k:Key):List SV:=[.isl .str p.1.1,rS p.1.2,rI p.2.1,rI p.2.2.1,.isl I64 p.2.2.2.1,.isl PrinT p.2.2.2.2,rI k.1,rI k.2.1,.isl .u8 k.2.2,rI 0,rI 0,.raw (.slice none 0 0)]
theorem z6w:Cln sd0v:=q0s (q0s (q0s (q0s (q0s (q0s (q0s (q0s (q0s (q0s (q0s (q0s q3s)))))))))))
theorem z8h(p:Pac):Cln (sd1v p):=q2y (q0s (q0s (q0s (q2y (q2y (q0s (q0s (q0s (q0s (q0s (q0s q3s)))))))))))
theorem z7L(p:Pac)(k:Key):Cln (sd2v p k):=q2y (q0s (q0s (q0s (q2y (q2y (q0s (q0s (q2y (q0s (q0s (q0s q3s)))))))))))
theorem j6q(b:List UInt8)(n:Nat)(hn:n≤b.length)(hb:b.length≤1099511627776):
 Eff Tryz.prog 108 [.agg [.ptr 0 0],.ptr 1 0] b n [sdOb sd0v] (fun _=>.tup []) (fun p:Pac=>[sdOb (sd1v p)]) (pacP (b.drop n)):=by
 have hr:=j5S b n hn hb;cases hx:pacP (b.drop n) with
 |error e=>
  have hr':=q2v hr hx;refine q0b (by simp) ?_
  refine rQ fi108 ?_;refine effP [0] (hr') ?_;trivial
 |ok x=>
  obtain ⟨v,k⟩:=x;have hr':=q2e hr hx;refine q0b (by simp) ?_
  refine rQ fi108 ?_;refine eQ [0] (hr') ?_;trivial
theorem j5W(b:List UInt8)(n:Nat)(hn:n≤b.length)(hb:b.length≤1099511627776)(p:Pac):
 Eff Tryz.prog 109 [.agg [.ptr 0 0],.ptr 1 0] b n [sdOb (sd1v p)] (fun _=>.tup []) (fun k:Key=>[sdOb (sd2v p k)]) (keyP (b.drop n)):=by
 have hr:=z4Y b n hn hb;cases hx:keyP (b.drop n) with
 |error e=>
  have hr':=q7H hr hx;refine q0b (by simp) ?_
  refine rQ fi109 ?_;refine eQ [0] (hr') ?_;refine effP [] (q6C e (z9f _ _ hx)) ?_;trivial
 |ok x=>
  obtain ⟨v,k⟩:=x;have hr':=q7Y hr hx;refine q0b (by simp) ?_
  refine rQ fi109 ?_;refine eQ [0] (hr') ?_;refine cQ (z0U _) ?_;trivial
theorem j5w(b:List UInt8)(n:Nat)(hn:n≤b.length)(hb:b.length≤1099511627776)(p:Pac)(a:Key):
 Eff Tryz.prog 112 [.agg [.ptr 0 0],.ptr 1 0] b n [sdOb (sd2v p a)] (fun _=>.tup []) (fun k:Key=>[sdOb (SgT.cells ((p,a,k):Sgd))]) (keyP (b.drop n)):=by
 have hr:=z4Y b n hn hb;cases hx:keyP (b.drop n) with
 |error e=>
  have hr':=q7H hr hx;refine q0b (by simp) ?_
  refine rQ fi112 ?_;refine eQ [0] (hr') ?_;refine effP [] (q6C e (z9f _ _ hx)) ?_;trivial
 |ok x=>
  obtain ⟨v,k⟩:=x;have hr':=q7Y hr hx;refine q0b (by simp) ?_
  refine rQ fi112 ?_;refine eQ [0] (hr') ?_;refine cQ (z0U _) ?_;trivial
def sgIn:PR Sgd:=bindP (needP 0 pacP) fun p=>bindP (needP 1 keyP) fun a=>bindP (needP 2 keyP) fun b=>retP ((p,a,b):Sgd)
def sgP:PR Sgd:=inP 48 sgIn
theorem z7C:FitsP sgIn:=q1U q0J fun _=>q1U q0J fun _=>q1U q0J fun _=>z1P
theorem j6Q(b:List UInt8)(n:Nat)(hn:n≤b.length)(hb:b.length≤1099511627776):
 Eff Tryz.prog 106 [.agg [.ptr 0 0],.ptr 1 0] b n [sdOb sd0v] (fun _=>.tup []) (fun p=>[sdOb (SgT.cells p)]) (sgIn (b.drop n)):=by
 refine z4R (fun _=>Ag _) ?_;obtain ⟨X,hX0⟩:∃X,X=sgIn (b.drop n):=⟨_,rfl⟩;rw [←hX0];have hX:=hX0.trans z7g;clear hX0;unfold sgIn at hX;refine rQ fi106 ?_;have c1:=need1 108 0 (by omega) b (n) hn hb 84 _ z6w pacP q2B _ (fun p=>z8h p) (by have h:=j6q (takeC (b.drop (n))) 0 (Ak _) (q1u hb);rwa [As] at h)
 rcases h1:needP 0 pacP (b.drop (n)) with e| ⟨v1,k1⟩
 · have c1':=q2v c1 h1;obtain rfl:=q4e hX h1;refine effP [0,1] (c1') ?_;trivial
 replace hX:=q3W hX h1;have c1':=q2e c1 h1;have f1:=q2M q0J hn h1;refine eQ [0,1] (c1') ?_;have c2:=need1 109 1 (by omega) b (n+k1) f1 hb 84 _ (z8h v1) keyP q2B _ (fun k=>z7L v1 k) (by have h:=j5W (takeC (b.drop (n+k1))) 0 (Ak _) (q1u hb) v1;rwa [As] at h)
 rcases h2:needP 1 keyP (b.drop (n+k1)) with e| ⟨v2,k2⟩
 · have c2':=q2v c2 h2;obtain rfl:=q4e hX h2;refine effP [0,1] (c2') ?_;trivial
 replace hX:=q3W hX h2;have c2':=q2e c2 h2;have f2:=q2M q0J f1 h2;refine eQ [0,1] (c2') ?_;have c3:=need1 112 2 (by omega) b (n+k1+k2) f2 hb 84 _ (z7L v1 v2) keyP q2B _ (fun k=>z1j SgT (v1,v2,k)) (by have h:=j5w (takeC (b.drop (n+k1+k2))) 0 (Ak _) (q1u hb) v1 v2;rwa [As] at h)
 rcases h3:needP 2 keyP (b.drop (n+k1+k2)) with e| ⟨v3,k3⟩
 · have c3':=q2v c3 h3;obtain rfl:=q4e hX h3;refine effP [0,1] (c3') ?_;trivial
 replace hX:=q3W hX h3;have c3':=q2e c3 h3;have f3:=q2M q0J f2 h3;refine eQ [0,1] (c3') ?_;subst hX;simp only [shiftP,retP];with_reducible refine sxE ?_
 exact congrArg (Value.int .i64) (by omega)
theorem j5C(b:List UInt8)(n:Nat)(hn:n≤b.length)(hb:b.length≤1099511627776):
 Eff Tryz.prog 52 [.agg [.ptr 0 0]] b n [] (fun p=>.agg (SgT.cells p)) (fun _=>[]) (sgP (b.drop n)):=by
 have h1:=j6Q (takeC (b.drop n)) 0 (Ak _) (q1u hb);rw [As] at h1;have hs:=sequence1 106 b n hn hb 84 _ z6w sgIn z7C (fun p=>SgT.cells p) (fun p=>z1j SgT p) h1;change Eff _ _ _ _ _ _ _ _ (sgP (b.drop n)) at hs;cases hx:sgP (b.drop n) with
 |error e=>
  have hm':=q2v hs hx;refine q0b (by simp) ?_
  refine rQ fi52 ?_;refine effP [0,2] (hm') ?_;trivial
 |ok x=>
  obtain ⟨v,q⟩:=x;have hm':=q2e hs hx;refine q0b (by simp) ?_
  refine rQ fi52 ?_;refine eQ [0,2] (hm') ?_;trivial
theorem j2b:OkP sgP SgT.ok:=q9k (q2c (q3y j3g) fun _ h0=>q2c (q3y z7Y) fun _ h1=>q2c (q3y z7Y) fun _ h2=>z3c ⟨h0,h1,h2⟩)
theorem q6V(o:SObj)(T:TypeId)(x:Value)(R:List SObj)(K:List SObj→Prop)(h:∀G,K (o :: .cells T [rI 6] :: (R++G))):DCall Tryz.prog 100 [.ptr 1 0] (some wrongV) (o :: .cells T [.raw x] :: R) K:=by
 refine recE mixed fi100 ?_;exact h _
theorem j0v(o o':SObj)(R:List SObj)(K:List SObj→Prop)(h:∀G,K (o :: o' :: (R++G))):DCall Tryz.prog 100 [.ptr 1 0] none (o :: o' :: R) K:=by
 refine recE mixed fi100 ?_;exact h _
def decSg(b:List UInt8):Option (SgT).den:=match allP sgP b with
 |.ok f=>if vSgn f=true∧sgnS f=b then some f else none
 |.error _=>none
theorem z5p(b:List UInt8)(hb:b.length≤1099511627776):PC Tryz.prog 51 [.isl .u8 b,.fn 52 [] [],.fn 53 [] [],.fn 46 [] []] (.tup [.agg ((SgT).cells ((decSg b).getD (SgT).dflt)),rI (if (decSg b).isSome then 0 else 6)]):=by
 have hnew:=j6y b (by omega)
 have hread:=j5C b 0 (Ak _) hb;have hok:∀e m,sgP b= .ok (e,m)→(SgT).ok e:=fun e m h=>j2b b e m hb h;rw [As] at hread;refine q0f rfl rfl ?_;refine defE mixed fi51 ?_;refine gQ ?_;refine eQ [] (hnew) ?_;cases hx:sgP b with
 |error e=>
  have hd:decSg b=none:=by unfold decSg allP;rw [hx]
  have hr:=q2v hread hx;rw [hd];refine effP [2] (hr) ?_;refine ⟨by simp,q6V _ _ _ _ _ fun G=> ?_⟩
  with_reducible refine sxE ?_
  exact ⟨⟨rfl,rfl,rfl,rfl,rfl,rfl,rfl,rfl,rfl,rfl,rfl,rfl⟩,rfl⟩
 |ok x=>
  obtain ⟨e,m⟩:=x;have hr:=q2e hread hx;have heo:=hok e m hx;rw [Ab] at hr;refine eQ [2] (hr) ?_;have hfit:m≤b.length:=q2B _ _ _ hx;by_cases hm:m<b.length
  · have hd:decSg b=none:=by unfold decSg allP;rw [hx];simp [hm]
    rw [hd];refine effP [2] (z8t b m hm) ?_;refine ⟨by simp,q6V _ _ _ _ _ fun G=> ?_⟩
    with_reducible refine sxE ?_
    exact ⟨⟨rfl,rfl,rfl,rfl,rfl,rfl,rfl,rfl,rfl,rfl,rfl,rfl⟩,rfl⟩
  refine eQ [2] (z6H b m (by omega)) ?_
  refine q0a (j5y e heo) ?_;cases hv:vSgn e with
  |false=>
   have hd:decSg b=none:=by unfold decSg allP;rw [hx];simp [hm,hv]
   rw [hd];refine gQ ?_;refine q0r (fun h=>absurd h (by decide)) fun _=> ?_
   with_reducible refine sxE ?_
   refine ⟨by simp,q6V _ _ _ _ _ fun G=> ?_⟩
   with_reducible refine sxE ?_
   exact ⟨⟨rfl,rfl,rfl,rfl,rfl,rfl,rfl,rfl,rfl,rfl,rfl,rfl⟩,rfl⟩
  |true=>
   refine gQ ?_;refine cQ (j2c e heo hv) ?_;refine q0a (j4r _ _) ?_;by_cases he:sgnS e=b
   · have hd:decSg b=some e:=by unfold decSg allP;rw [hx];simp [hm,hv,he]
     rw [hd,decide_eq_true he];refine gQ ?_;refine cQ q3Y ?_;refine j0v _ _ _ _ fun G=> ?_;with_reducible refine sxE ?_
     exact ⟨⟨rfl,rfl,rfl,rfl,rfl,rfl,rfl,rfl,rfl,rfl,rfl,rfl⟩,rfl⟩
   have hd:decSg b=none:=by unfold decSg allP;rw [hx];simp [hm,hv,he]
   rw [hd,decide_eq_false he];refine gQ ?_;refine q0r (fun h=>absurd h (by decide)) fun _=> ?_
   with_reducible refine sxE ?_
   refine ⟨by simp,q6V _ _ _ _ _ fun G=> ?_⟩
   with_reducible refine sxE ?_
   exact ⟨⟨rfl,rfl,rfl,rfl,rfl,rfl,rfl,rfl,rfl,rfl,rfl,rfl⟩,rfl⟩
abbrev inW(x:Int):Prop:=0≤x∧x<4294967296
def xorW(a b:Int):Int:=((a.toNat^^^ b.toNat:Nat):Int)
def andW(a b:Int):Int:=((a.toNat&&& b.toNat:Nat):Int)
def rotW(n:Nat)(x:Int):Int:=x / 2^ n+x*2^ (32-n)%4294967296
def chW(e f g:Int):Int:=xorW (andW e f) (andW (4294967295-e) g)
def majW(a b c:Int):Int:=xorW (xorW (andW a b) (andW a c)) (andW b c)
theorem q1d{a b:Int}(ha:inW a)(hb:inW b):inW (xorW a b):=by
 have:a.toNat^^^ b.toNat<2^ 32:=Nat.xor_lt_two_pow (by omega) (by omega)
 unfold xorW;omega
theorem q1h{a b:Int}(ha:inW a)(_:inW b):inW (andW a b):=by
 have:a.toNat&&& b.toNat≤a.toNat:=Nat.and_le_left;unfold andW;omega
theorem q0L{n:Nat}{x:Int}(h1:1≤n)(h2:n≤31)(hx:inW x):inW (rotW n x):=by
 obtain ⟨x,rfl⟩:∃m:Nat,x=m:=⟨x.toNat,by omega⟩
 unfold rotW;have hx':x<2^ n*2^ (32-n):=by rw [←CU,show n+ (32-n)=32 by omega];omega
 have e1:((x:Int) / 2^ n)=((x / 2^ n:Nat):Int):=by simp
 have e2:((x:Int)*2^ (32-n)%4294967296)=((x*2^ (32-n)%4294967296:Nat):Int):=by simp
 rw [e1,e2];have h3:x / 2^ n<2^ (32-n):=Nat.div_lt_of_lt_mul hx';have h4:x*2^ (32-n)%4294967296=(x%2^ n)*2^ (32-n):=by
  have:(4294967296:Nat)=2^ n*2^ (32-n):=by rw [←CU,show n+ (32-n)=32 by omega]
  rw [this,Nat.mul_mod_mul_right]
 have h5:x%2^ n<2^ n:=Nat.mod_lt _ (Nat.two_pow_pos n);have h6:(x%2^ n+1)*2^ (32-n)≤2^ n*2^ (32-n):=A1 _ h5;rw [←CU,show n+ (32-n)=32 by omega,Nat.add_mul] at h6
 rw [h4];generalize x / 2^ n=u at*;generalize x%2^ n*2^ (32-n)=v at*;generalize 2^ (32-n)=w at*;clear e1 e2 h4 h5 hx';omega
theorem z4d{k:IntKind}{a b:Int}(hk:32≤k.bits)(ha:inW a)(hb:inW b):((BitVec.ofInt k.bits a^^^ BitVec.ofInt k.bits b).toNat:Int)=xorW a b:=by
 obtain ⟨a,rfl⟩:∃m:Nat,a=m:=⟨a.toNat,by omega⟩
 obtain ⟨b,rfl⟩:∃m:Nat,b=m:=⟨b.toNat,by omega⟩
 have hp:2^ 32≤2^ k.bits:=A6 (by decide) hk
 unfold xorW;rw [BitVec.toNat_xor,AK,AK,AX,AX,AI (by omega),AI (by omega)]
 rfl
theorem z5f{k:IntKind}{a b:Int}(hk:32≤k.bits)(ha:inW a)(hb:inW b):((BitVec.ofInt k.bits a&&& BitVec.ofInt k.bits b).toNat:Int)=andW a b:=by
 obtain ⟨a,rfl⟩:∃m:Nat,a=m:=⟨a.toNat,by omega⟩
 obtain ⟨b,rfl⟩:∃m:Nat,b=m:=⟨b.toNat,by omega⟩
 have hp:2^ 32≤2^ k.bits:=A6 (by decide) hk
 unfold andW;rw [BitVec.toNat_and,AK,AK,AX,AX,AI (by omega),AI (by omega)]
 rfl
theorem w64{a:Int}(ha:inW a):IntKind.i64.wrap a=a:=by rw [IntWalk.i64_in _ (by omega)]
theorem w32{a:Int}(ha:inW a):IntKind.u32.wrap a=a:=by
 have h:IntKind.u32.wrap a=a%4294967296:=rfl;rw [h];omega
theorem xor64{a b:Int}(ha:inW a)(hb:inW b):xorK .i64 a b=xorW a b:=by unfold xorK;rw [z4d (by decide) ha hb,w64 (q1d ha hb)]
theorem and64{a b:Int}(ha:inW a)(hb:inW b):andK .i64 a b=andW a b:=by unfold andK;rw [z5f (by decide) ha hb,w64 (q1h ha hb)]
theorem xor32{a b:Int}(ha:inW a)(hb:inW b):xorK .u32 a b=xorW a b:=by unfold xorK;rw [z4d (by decide) ha hb,w32 (q1d ha hb)]
theorem and32{a b:Int}(ha:inW a)(hb:inW b):andK .u32 a b=andW a b:=by unfold andK;rw [z5f (by decide) ha hb,w32 (q1h ha hb)]

theorem q2Y(x:Int)(n:Nat)(h1:1≤n)(h2:n≤31)(hx:inW x):PC Tryz.prog 262 [rI x,rI n] (rI (rotW n x)):=by
 have e0:IntKind.i64.wrap (32- (n:Int))=((32-n:Nat):Int):=by rw [IntWalk.i64_in _ (by omega)];omega
 refine q0p rfl rfl ?_;refine rQ fi262 ?_;refine ⟨by omega,by rw [e0];omega,by decide,?_⟩
 obtain ⟨m,rfl⟩:∃m:Nat,x=m:=⟨x.toNat,by omega⟩
 have hm:m<4294967296:=by omega
 have hp:2^ (32-n)≤2^ 31:=A6 (by decide) (by omega)
 have h5:m*2^ (32-n)≤4294967295*2^ 31:=Nat.mul_le_mul (by omega) hp
 rw [e0,Bf,A5 (by omega),A5 (by omega)]
 congr 1;have e1:(m:Int)*2^ (32-n)=((m*2^ (32-n):Nat):Int):=by simp
 have e2:(m:Int).fdiv (2^ n)=(m:Int) / 2^ n:=AV _ (by exact_mod_cast Ak (2^ n))
 have hr:=q0L h1 h2 hx;unfold rotW at hr⊢;rw [e2,e1,wrapi (n:=((m*2^ (32-n):Nat):Int)) (by omega),AW (by omega)]
 rw [e1] at hr;rw [wrapi (by omega)]
theorem j5P(e f g:Int)(he:inW e)(hf:inW f)(hg:inW g):PC Tryz.prog 263 [rI e,rI f,rI g] (rI (chW e f g)):=by
 have e0:IntKind.i64.wrap (4294967295-e)=4294967295-e:=by rw [IntWalk.i64_in _ (by omega)]
 have hn:inW (4294967295-e):=by omega
 have e1:=and64 he hf;have e2:=and64 hn hg;have e3:=xor64 (q1h he hf) (q1h hn hg);refine q0p rfl rfl ?_;refine rQ fi263 ?_;rw [e0,e1,e2,e3];rfl
theorem j5D(a b c:Int)(ha:inW a)(hb:inW b)(hc:inW c):PC Tryz.prog 264 [rI a,rI b,rI c] (rI (majW a b c)):=by
 have e1:=and64 ha hb;have e2:=and64 ha hc;have e3:=and64 hb hc;have e4:=xor64 (q1h ha hb) (q1h ha hc);have e5:=xor64 (q1d (q1h ha hb) (q1h ha hc)) (q1h hb hc);refine q0p rfl rfl ?_;refine rQ fi264 ?_;rw [e1,e2,e4,e3,e5];rfl
abbrev W32:Int:=4294967296
def byI(b:List UInt8)(j:Nat):Int:=((b.getD j 0).toNat:Int)
theorem j2j(b:List UInt8)(j:Nat):0≤byI b j∧byI b j<256:=by
 have:=(b.getD j 0).toNat_lt;unfold byI;omega
def wdP(b:List UInt8)(t:Nat):Nat→Int
 |0=>0
 |i+1=>256*wdP b t i+byI b (4*t+i)
theorem z7T(b:List UInt8)(t:Nat):∀i,i≤4→inW (wdP b t i)∧wdP b t i<256^ i
 |0,_=>by simp [wdP,inW]
 |i+1,hi=>by
  have:=z7T b t i (by omega)
  have hb:=j2j b (4*t+i);have h3:i=0∨i=1∨i=2∨i=3:=by omega
  rcases h3 with rfl|rfl|rfl|rfl<;> (simp only [wdP] at*;simp at*;omega)
def sg0(x:Int):Int:=xorW (xorW (rotW 7 x) (rotW 18 x)) (x / 8)
def sg1(y:Int):Int:=xorW (xorW (rotW 17 y) (rotW 19 y)) (y / 1024)
theorem j5r{x:Int}(h:inW x):inW (sg0 x):=q1d (q1d (q0L (by decide) (by decide) h) (q0L (by decide) (by decide) h)) (by omega)
theorem j6d{x:Int}(h:inW x):inW (sg1 x):=q1d (q1d (q0L (by decide) (by decide) h) (q0L (by decide) (by decide) h)) (by omega)
def wS(b:List UInt8)(t:Nat):Int:=if h:t<16 then wdP b t 4 else (sg1 (wS b (t-2))+wS b (t-7)+sg0 (wS b (t-15))+wS b (t-16))%W32
termination_by t
theorem z2t{b:List UInt8}{t:Nat}(h:t<16):wS b t=wdP b t 4:=by rw [wS,dif_pos h]
theorem z2G{b:List UInt8}{t:Nat}(h:16≤t):wS b t=(sg1 (wS b (t-2))+wS b (t-7)+sg0 (wS b (t-15))+wS b (t-16))%W32:=by rw [wS,dif_neg (by omega)]
theorem q2w(b:List UInt8)(t:Nat):inW (wS b t):=by
 rcases AC t 16 with h|h
 · rw [z2t h];exact (z7T b t 4 (Ag _)).1
 rw [z2G h];unfold inW W32;omega
def wL(b:List UInt8)(t:Nat):List Int:=(List.range 64).map fun j=>if j<t then wS b j else 0
theorem q3P(b:List UInt8)(t:Nat):(wL b t).length=64:=by simp [wL]
theorem q1b(b:List UInt8){t j:Nat}(h:j<t)(h2:j<64):(wL b t).getD j 0=wS b j:=by
 simp [wL,Ad,h2,h]
theorem q3Q(b:List UInt8){t:Nat}(h:t<64):(wL b t).set t (wS b t)=wL b (t+1):=by
 apply AO
 · simp [wL]
 intro j h1 h2;simp [wL] at h1 h2;rw [BC];simp only [wL,A4,AZ];split
 · subst_vars;rw [if_pos (by omega)]
 rename_i hne;by_cases hj:j<t
 · rw [if_pos hj,if_pos (by omega)]
 rw [if_neg hj,if_neg (by omega)]
theorem q5Y(b:List UInt8):wL b 0=List.replicate 64 0:=by
 unfold wL;rw [List.eq_replicate_iff];refine ⟨by rw [Be,BS],fun x hx=> ?_⟩
 obtain ⟨j,_,rfl⟩:=Bl.1 hx;exact if_neg (BK _)
theorem j3A(b:List UInt8){t:Nat}(h2:t<64):(wL b t).set t 0=wL b t:=by
 apply AO
 · simp [wL]
 intro j h1 h3;rw [BC];split
 · subst_vars;simp [wL]
 rfl
def kS(t:Nat):Int:=dat_ref04_constants.getD t 0
def bs1(e:Int):Int:=xorW (xorW (rotW 6 e) (rotW 11 e)) (rotW 25 e)
def bs0(a:Int):Int:=xorW (xorW (rotW 2 a) (rotW 13 a)) (rotW 22 a)
def t1S(k w:Int)(v:List Int):Int:=v.getD 7 0+bs1 (v.getD 4 0)+chW (v.getD 4 0) (v.getD 5 0) (v.getD 6 0)+k+w
def t2S(v:List Int):Int:=bs0 (v.getD 0 0)+majW (v.getD 0 0) (v.getD 1 0) (v.getD 2 0)
def rnd(k w:Int)(v:List Int):List Int:=
 [(t1S k w v+t2S v)%W32,v.getD 0 0,v.getD 1 0,v.getD 2 0,(v.getD 3 0+t1S k w v)%W32,v.getD 4 0,v.getD 5 0,v.getD 6 0]
def rnds(b:List UInt8)(h:List Int):Nat→List Int
 |0=>h
 |t+1=>rnd (kS t) (wS b t) (rnds b h t)
abbrev inWs(v:List Int):Prop:=v.length=8∧∀x∈v,inW x
theorem q0c{v:List Int}(h:inWs v)(i:Nat)(hi:i<8):inW (v.getD i 0):=by
 rw [Ad,Ae (by omega)]
 exact h.2 _ (B9 _)
theorem j2B{x:Int}(h:inW x):inW (bs1 x):=q1d (q1d (q0L (by decide) (by decide) h) (q0L (by decide) (by decide) h)) (q0L (by decide) (by decide) h)
theorem j1Y{x:Int}(h:inW x):inW (bs0 x):=q1d (q1d (q0L (by decide) (by decide) h) (q0L (by decide) (by decide) h)) (q0L (by decide) (by decide) h)
theorem j1U{e f g:Int}(he:inW e)(hf:inW f)(hg:inW g):inW (chW e f g):=q1d (q1h he hf) (q1h (by omega) hg)
theorem z6V{a b c:Int}(ha:inW a)(hb:inW b)(hc:inW c):inW (majW a b c):=q1d (q1d (q1h ha hb) (q1h ha hc)) (q1h hb hc)
theorem j5R{k w:Int}{v:List Int}(h:inWs v):inWs (rnd k w v):=by
 refine ⟨rfl,fun x hx=> ?_⟩;have hm:∀y:Int,inW (y%W32):=fun y=>by unfold inW W32;omega
 simp only [rnd,Bi,CA,or_false] at hx;rcases hx with rfl|rfl|rfl|rfl|rfl|rfl|rfl|rfl
 · exact hm _
 · exact q0c h 0 (by decide)
 · exact q0c h 1 (by decide)
 · exact q0c h 2 (by decide)
 · exact hm _
 · exact q0c h 4 (by decide)
 · exact q0c h 5 (by decide)
 exact q0c h 6 (by decide)
theorem q1r{b:List UInt8}{h:List Int}(hh:inWs h):∀t,inWs (rnds b h t)
 |0=>hh
 |t+1=>j5R (q1r hh t)
theorem j6M:∀t,t<64→inW (kS t):=by decide
def blkS(b:List UInt8)(h:List Int):List Int:=(List.range 8).map fun i=>(h.getD i 0+ (rnds b h 64).getD i 0)%W32
def blkP(b:List UInt8)(h:List Int)(n:Nat):List Int:=(List.range 8).map fun i=>if i<n then (h.getD i 0+ (rnds b h 64).getD i 0)%W32 else h.getD i 0
end Go.Proofs.YtmapiojgmbgbgaaGreatDoor
namespace Go.Sx
open Go

variable {P:Program}
def PCE(P:Program)(f:FuncId)(args:List SV)(p:SV→Prop):Prop:=enters P f=true∧∀ (H:List SObj) (K:Out→List SObj→Prop),(∀s,p s→K (.ret s) H)→VCall P f args H K
theorem PCE.mono{f:FuncId}{args:List SV}{p q:SV→Prop}(h:PCE P f args p)(hq:∀s,p s→q s):PCE P f args q:=⟨h.1,fun H K hk=>h.2 H K fun s hs=>hk s (hq s hs)⟩
section
variable [Ghost] {AQ:Ex→List SV→List SObj→Prop}
end

section
variable {AQ:Ex→List SV→List SObj→Prop}
theorem q3R[Ghost]{b:Nat}{t:Ty}{x:t.den}{ag:Option Nat}{s:SV}{d:Option Tmp}{m:IM}(hm:(b,(⟨t,x⟩:Sigma Ty.den))∈datList)(hs:SV.ofT ag t x=some s)(ha:ag=none∨ag=some t.size)(hk:SoundI P AQ {m with tmps:=putT m.tmps d s}):ZldI P AQ ag b 0 d m:=by
 rintro E C _ ⟨⟨ht,_⟩,_⟩;exact ⟨s,.inr ⟨t,x,(ht.dat _ hm).2,hs,ha⟩,hk⟩
theorem z9G[Ghost]{b:Nat}{t:Ty}{x:t.den}{ag:Option Nat}{s:SV}{d:Option Tmp}{m:IM}(hm:(b,(⟨t,x⟩:Sigma Ty.den))∈datList)(hs:SV.ofT ag t x=some s)(ha:ag=none∨ag=some t.size)(hk:SoundI P AQ {m with tmps:=putT m.tmps d s}):ZldF P AQ ag b 0 d m:=
 ⟨s,fun _ _ _ _ hi=>.inr ⟨t,x,(hi.1.tab.dat _ hm).2,hs,ha⟩,hk⟩
end
end Go.Sx
