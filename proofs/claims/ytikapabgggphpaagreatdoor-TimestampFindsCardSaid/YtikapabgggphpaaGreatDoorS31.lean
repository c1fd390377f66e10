/- Timestamps: contracts: the reading of a plaintext. -/
import Derived.Test.YtikapabgggphpaaGreatDoorS30
set_option linter.all false
namespace Go.Proofs.YtikapabgggphpaaGreatDoor
open Go Go.Sx Go.Proofs
set_option maxRecDepth 100000
set_option maxHeartbeats 40000000
def nbP(m:Nat)(P:List UInt8→Except Nat (Int×Nat))(r:List UInt8):Except Nat (Int×Nat):=
 if nextB m r=true then
  if takeE (tagB m) r=0 then
   match P (takeC r) with
   |.error e=>.error e
   |.ok (v,k)=>if k< (takeC r).length then .error 6 else .ok (v,takeN r)
  else .error (takeE (tagB m) r)
 else .error 6
def nbO(b:List UInt8)(n:Nat):Except Nat (Int×Nat)→Out×List SObj
 |.ok (v,k)=>(.ret (.tup [rI v,rI 0]),[rdr b (n+k)])
 |.error e=>(.ret (.tup [rI 0,rI e]),[.dead])
theorem q9I(F:Nat)(P:List UInt8→Except Nat (Int×Nat))(m:Nat)(hm:m≤30)(b:List UInt8)(n:Nat)(hn:n≤b.length)(hb:b.length≤1099511627776)
 (hF:∀c:List UInt8,c.length≤1099511627776→EffR Tryz.prog F [.ptr 0 0] c 0 (fun v:Int=>rI v) (rI 0) (P c))(hfit:∀c v k,P c= .ok (v,k)→k≤c.length)(hne:∀c e,P c= .error e→e≠0):
 PE Tryz.prog 70 [.ptr 0 0,rI m,.fn F [] []] [rdr b n] (nbO b n (nbP m P (b.drop n))).1 (nbO b n (nbP m P (b.drop n))).2:=by
 unfold nbP;cases hx:nextB m (b.drop n) with
 |false=>
  have ht:=z1s m hm b n hn hx;rw [if_neg (by simp)]
  refine q0g (by simp [nbO]) ?_
  refine rQ fi70 ?_;refine eQ [0] (ht) ?_;simp only [nbO];with_reducible refine sxE ?_
  rfl
 |true=>
  rw [if_pos rfl];by_cases h0:takeE (tagB m) (b.drop n)=0
  · rw [if_pos h0];have ht:=z0R m hm b n hn hb hx h0;have hcl:(takeC (b.drop n)).length≤1099511627776:=q2s hb;generalize takeC (b.drop n)=c at*;generalize takeN (b.drop n)=k0 at*;have hf:=hF c hcl;cases hp:P c with
    |error e=>
     rw [hp] at hf;have he:=hne c e hp;have he':((e:Int)=0)=False:=eq_false (by omega)
     refine q0g (by simp [nbO]) ?_
     refine rQ fi70 ?_;refine eQ [0] (ht) ?_;refine q0j [1] (hf) rfl (by decide) (by repeat first|exact trivial|exact rfl|refine And.intro ?_ ?_) rfl rfl ?_
     simp only [afterO,Out.ren,SV.ren,mgA,sig,SObj.ren,SV.renL,List.set,List.map,Ah,he'];refine gy1 he' ?_;simp only [nbO];with_reducible refine sxE ?_;trivial
    |ok x=>
     obtain ⟨v,k⟩:=x;rw [hp] at hf;have hk:=hfit c v k hp;have hen:=z8o c (0+k) (by omega)
     rw [Ac] at hen;by_cases hlt:k<c.length
     · rw [if_pos hlt] at hen;dsimp only;rw [if_pos hlt];refine q0g (by simp [nbO]) ?_
       refine rQ fi70 ?_;refine eQ [0] (ht) ?_;refine q0j [1] (hf) rfl (by decide) (by repeat first|exact trivial|exact rfl|refine And.intro ?_ ?_) rfl rfl ?_
       simp only [afterO,Out.ren,SV.ren,mgA,sig,SObj.ren,SV.renL,List.set,List.map,Ah,Ac];refine gy1 Ac ?_;refine eQ [1] (hen) ?_;simp only [nbO];with_reducible refine sxE ?_
       rfl
     rw [if_neg hlt] at hen;dsimp only;rw [if_neg hlt];refine q0g (by simp [nbO]) ?_
     refine rQ fi70 ?_;refine eQ [0] (ht) ?_;refine q0j [1] (hf) rfl (by decide) (by repeat first|exact trivial|exact rfl|refine And.intro ?_ ?_) rfl rfl ?_
     simp only [afterO,Out.ren,SV.ren,mgA,sig,SObj.ren,SV.renL,List.set,List.map,Ah,Ac];refine gy1 Ac ?_;refine eQ [1] (hen) ?_;simp only [nbO];with_reducible refine sxE ?_;trivial
  rw [if_neg h0];have ht:=z1I m hm b n hn hb hx h0;have he':(((takeE (tagB m) (b.drop n):Nat):Int)=0)=False:=eq_false (by omega)
  generalize takeE (tagB m) (b.drop n)=e at*;refine q0g (by simp [nbO]) ?_
  refine rQ fi70 ?_;refine q0j [0] (ht) rfl (by decide) (by repeat first|exact trivial|exact rfl|refine And.intro ?_ ?_) rfl rfl ?_
  simp only [afterO,Out.ren,SV.ren,mgA,sig,SObj.ren,SV.renL,List.set,List.map,Ah,he'];refine gy1 he' ?_;simp only [nbO];with_reducible refine sxE ?_;trivial
def timeI(r:List UInt8):Except Nat (Int×Nat):=match timeP r with
 |.ok (v,k)=>.ok ((v:Int),k)
 |.error e=>.error e
theorem z9p(b:List UInt8)(hb:b.length≤1099511627776):EffR Tryz.prog 71 [.ptr 0 0] b 0 (fun v:Int=>rI v) (rI 0) (timeI b):=by
 unfold timeI;cases hx:timeP b with
 |error e=>exact z8n b 0 (Ai _) hb (by rw [Az];exact hx)
 |ok x=>
  obtain ⟨v,k⟩:=x;exact z9T b 0 (Ai _) hb (by rw [Az];exact hx)
theorem z4D(c:List UInt8)(v:Int)(k:Nat)(h:timeI c= .ok (v,k)):k≤c.length:=by
 unfold timeI at h;split at h
 · rename_i h1;cases h;exact q5Q _ _ _ h1
 cases h
theorem q5T(c:List UInt8)(e:Nat)(h:timeI c= .error e):e≠0:=by
 unfold timeI at h;split at h
 · cases h
 rename_i h1;cases h;exact q6W h1
theorem z4T{m:Nat}{P:List UInt8→Except Nat (Int×Nat)}{r:List UInt8}{v:Int}{k:Nat}(h:nbP m P r= .ok (v,k)):k≤r.length:=by
 unfold nbP at h;split at h
 · split at h
   · rename_i h0;split at h
     · cases h
     split at h
     · cases h
     cases h;exact q4z h0
   cases h
 cases h
theorem z2I{m:Nat}{P:List UInt8→Except Nat (Int×Nat)}{r:List UInt8}{e:Nat}(hne:∀c e,P c= .error e→e≠0)(h:nbP m P r= .error e):e≠0:=by
 unfold nbP at h;split at h
 · split at h
   · split at h
     · rename_i h1;cases h;exact hne _ _ h1
     split at h
     · cases h;decide
     cases h
   rename_i h0;cases h;exact h0
 cases h;decide
def rdT(p:List UInt8):Except Nat (Int×Int):=
 if takeE 48 p=0 then
  if takeN p<p.length then .error 6
  else match nbP 0 timeI (takeC p) with
   |.error e=>.error e
   |.ok (t,k1)=>match nbP 1 intP ((takeC p).drop k1) with
    |.error e=>.error e
    |.ok (m,k2)=>if k1+k2< (takeC p).length then .error 6 else .ok (t,m)
 else .error (takeE 48 p)
def rdO:Except Nat (Int×Int)→SV
 |.ok (t,m)=>.tup [rI t,rI m,rI 0]
 |.error e=>.tup [rI 0,rI 0,rI e]
theorem j4z(p:List UInt8)(hp:p.length≤1099511627776):PC Tryz.prog 37 [.isl .u8 p] (rdO (rdT p)):=by
 have hnew:=j3K p (by omega)
 have hs0:=z5P p 0 (Ai _) hp;have hs1:=z4H p 0 (Ai _) hp;rw [Az] at hs0 hs1;have hcl:(takeC p).length≤1099511627776:=by have:=q2O p;omega
 have hn0:=q9I 71 timeI 0 (by decide) (takeC p) 0 (Ai _) hcl (fun c hc=>z9p c hc) z4D q5T
 rw [Az] at hn0;unfold rdT;by_cases h0:takeE 48 p=0
 · have hs:=hs0 h0;have hle:=q4z h0;rw [if_pos h0];rw [Ac] at hs;have hen:=z8o p (takeN p) hle;generalize takeC p=c at*;generalize takeN p=k0 at*;by_cases hlt:k0<p.length
   · rw [if_pos hlt] at hen;rw [if_pos hlt];refine q0p rfl rfl ?_;refine rQ fi37 ?_;refine eQ [] (hnew) ?_;refine eQ [0] (hs) ?_;refine eQ [0] (hen) ?_;rfl
   rw [if_neg hlt] at hen;rw [if_neg hlt];cases hx:nbP 0 timeI c with
   |error e=>
    rw [hx] at hn0;have he:=z2I q5T hx;have he':((e:Int)=0)=False:=eq_false (by omega)
    simp only [nbO] at hn0;refine q0p rfl rfl ?_;refine rQ fi37 ?_;refine eQ [] (hnew) ?_;refine eQ [0] (hs) ?_;refine eQ [0] (hen) ?_;refine q0j [1] (hn0) rfl (by decide) (by repeat first|exact trivial|exact rfl|refine And.intro ?_ ?_) rfl rfl ?_
    simp only [afterO,Out.ren,SV.ren,mgA,sig,SObj.ren,SV.renL,List.set,List.map,Ah,he'];refine gy1 he' ?_;rfl
   |ok x=>
    obtain ⟨t,k1⟩:=x;have hk1:=z4T hx;rw [hx] at hn0;simp only [nbO] at hn0;rw [Ac] at hn0;have hn1:=q9I 72 intP 1 (by decide) c k1 hk1 hcl (fun c hc=>by have:=j1C c 0 (Ai _) hc;rwa [Az] at this) (fun c v k h=>q5Q _ _ _ h) (fun c e h=>q6W h)
    dsimp only;cases hy:nbP 1 intP (c.drop k1) with
    |error e=>
     rw [hy] at hn1;have he:=z2I (fun c e h=>q6W h) hy;have he':((e:Int)=0)=False:=eq_false (by omega)
     simp only [nbO] at hn1;refine q0p rfl rfl ?_;refine rQ fi37 ?_;refine eQ [] (hnew) ?_;refine eQ [0] (hs) ?_;refine eQ [0] (hen) ?_;refine eQ [1] (hn0) ?_;refine q0j [1] (hn1) rfl (by decide) (by repeat first|exact trivial|exact rfl|refine And.intro ?_ ?_) rfl rfl ?_
     simp only [afterO,Out.ren,SV.ren,mgA,sig,SObj.ren,SV.renL,List.set,List.map,Ah,he'];refine gy1 he' ?_;rfl
    |ok y=>
     obtain ⟨m,k2⟩:=y;have hk2:=z4T hy;rw [Al] at hk2;rw [hy] at hn1;simp only [nbO] at hn1;have hen2:=z8o c (k1+k2) (by omega)
     dsimp only;by_cases hl2:k1+k2<c.length
     · rw [if_pos hl2] at hen2;rw [if_pos hl2];refine q0p rfl rfl ?_;refine rQ fi37 ?_;refine eQ [] (hnew) ?_;refine eQ [0] (hs) ?_;refine eQ [0] (hen) ?_;refine eQ [1] (hn0) ?_;refine eQ [1] (hn1) ?_;refine eQ [1] (hen2) ?_;rfl
     rw [if_neg hl2] at hen2;rw [if_neg hl2];refine q0p rfl rfl ?_;refine rQ fi37 ?_;refine eQ [] (hnew) ?_;refine eQ [0] (hs) ?_;refine eQ [0] (hen) ?_;refine eQ [1] (hn0) ?_;refine eQ [1] (hn1) ?_;refine eQ [1] (hen2) ?_;rfl
 have hs:=hs1 h0;have he':(((takeE 48 p:Nat):Int)=0)=False:=eq_false (by omega)
 rw [if_neg h0];generalize takeE 48 p=e at*;refine q0p rfl rfl ?_;refine rQ fi37 ?_;refine eQ [] (hnew) ?_;refine q0j [0] (hs) rfl (by decide) (by repeat first|exact trivial|exact rfl|refine And.intro ?_ ?_) rfl rfl ?_
 simp only [afterO,Out.ren,SV.ren,mgA,sig,SObj.ren,SV.renL,List.set,List.map,Ah,he'];refine gy1 he' ?_;rfl
theorem z2X:OkP keyP fun k=>k.2.2.length≤1099511627776:=j0u (q8m (Q1:=fun _=>True) z3f fun _ _=>q8m (Q1:=fun _=>True) z3f fun _ _=>q8m (Q1:=fun c=>c.length≤1099511627776) (z8Q (j4b fun c v hc hd=>by
 unfold decOct at hd;cases hd
 exact hc)) fun _ hc=>j3h hc)
def argOk(k:Key)(kind now skew:Int):Bool:=vKey k&& (decide (kind=2) && (decide (0≤now) && (decide (now≤1099511627776) && (decide (0≤skew) && decide (skew≤1099511627776)))))
def ckT(t m now skew:Int):Int×Int×Int:=
 if m<0∨1000000≤m then (0,0,3)
 else if skew<mxV true (IntKind.i64.wrap (t-now)) (IntKind.i64.wrap (now-t)) then (0,0,330)
 else (t,m,0)
def ckP(pl:List UInt8)(now skew:Int):Int×Int×Int:=match rdT pl with
 |.error e=>(0,0,(e:Int))
 |.ok (t,m)=>ckT t m now skew
def ckO(x:Int×Int×Int):SV:=.tup [rI x.1,rI x.2.1,rI x.2.2]
def ckG(k:Key)(kind:Int)(b:List UInt8)(now skew:Int):Int×Int×Int:=
 if argOk k kind now skew=true then match keyP b with
  |.error e=>(0,0,(e:Int))
  |.ok (s,n)=>if n<b.length then (0,0,5)
   else if (opS k 1 s.1 s.2.1 s.2.2).2=0 then ckP (opS k 1 s.1 s.2.1 s.2.2).1 now skew
   else (0,0,(opS k 1 s.1 s.2.1 s.2.2).2)
 else (0,0,2)
theorem z6Q(k:Key)(u:Nat)(sp sv:Int)(sb:List UInt8):(opS k u sp sv sb).1.length≤sb.length:=by
 unfold opS;split
 · rename_i hu;have hf:=q3m hu;split
   · split
     · exact Ai _
     split
     · exact Ai _
     split
     · rename_i h1 _ _;dsimp only;have hl:(sb.take (sb.length-k.2.2.length)).length=sb.length-k.2.2.length:=by rw [Aj];omega
       unfold unS;split
       · rw [Al,q5V _ _ _ rfl (by omega)];omega
       rw [q3k,Al];omega
     exact Ai _
   exact Ai _
 exact Ai _
theorem j0M{p:List UInt8}{e:Nat}(h:rdT p= .error e):e≠0:=by
 unfold rdT at h;split at h
 · split at h
   · cases h;decide
   split at h
   · rename_i h1;cases h;exact z2I q5T h1
   split at h
   · rename_i h1;cases h;exact z2I (fun c e h=>q6W h) h1
   split at h
   · cases h;decide
   cases h
 rename_i h0;cases h;exact h0
theorem z8m(k:Key)(kind:Int)(b:List UInt8)(now skew:Int)(ho:KeyT.ok k)(ha:argOk k kind now skew=false):PC Tryz.prog 14 [.agg (KeyT.cells k),.agg [rI kind,.isl .u8 b],rI now,rI skew] (ckO (0,0,2)):=by
 have hva:=q6A k ho;unfold argOk at ha;obtain ⟨p,v,kb⟩:=k;refine q0p rfl rfl ?_;refine q0Z fi14 ?_;refine gQ ?_;refine q0a hva ?_;generalize vKey (p,v,kb)=vb at*;cases vb with
 |false=>
  refine gQ ?_;rfl
 |true=>
  by_cases c1:kind=2
  · have f1:(kind=2)=True:=eq_true c1;by_cases c2:now<0
    · have f2:(now<0)=True:=eq_true c2;refine gy2 f1 f2 ?_;rfl
    have f2:(now<0)=False:=eq_false c2;by_cases c3:1099511627776<now
    · have f3:(1099511627776<now)=True:=eq_true c3;refine gy3 f1 f2 f3 ?_;rfl
    have f3:(1099511627776<now)=False:=eq_false c3;by_cases c4:skew<0
    · have f4:(skew<0)=True:=eq_true c4;refine gy4 f1 f2 f3 f4 ?_;rfl
    have f4:(skew<0)=False:=eq_false c4;by_cases c5:1099511627776<skew
    · have f5:(1099511627776<skew)=True:=eq_true c5;refine gy8 f1 f2 f3 f4 f5 f5 f5 f5 ?_;rfl
    exfalso;simp [c1] at ha;omega
  have f1:(kind=2)=False:=eq_false c1;refine gy1 f1 ?_;rfl
theorem q5M(k:Key)(kind:Int)(b:List UInt8)(now skew:Int)(hko:KeyT.ok k)(hb:b.length≤1048576):PC Tryz.prog 14 [.agg (KeyT.cells k),.agg [rI kind,.isl .u8 b],rI now,rI skew] (ckO (ckG k kind b now skew)):=by
 obtain ⟨p,v,kb⟩:=k;unfold ckG;cases ha:argOk (p,v,kb) kind now skew with
 |false=>
  rw [if_neg (by simp)]
  exact z8m _ kind b now skew hko ha
 |true=>
  rw [if_pos rfl];have hva:=q6A (p,v,kb) hko;unfold argOk at ha;simp only [Am,decide_eq_true_eq] at ha;obtain ⟨a0,rfl,a2,a3,a4,a5⟩:=ha;rw [a0] at hva;have f2:(now<0)=False:=eq_false (by omega)
  have f3:(1099511627776<now)=False:=eq_false (by omega)
  have f4:(skew<0)=False:=eq_false (by omega)
  have f5:(1099511627776<skew)=False:=eq_false (by omega)
  have hnew:=j3K b (by omega)
  have hsl:=z8I b 0 (Ai _) (by omega)
  rw [Az] at hsl;refine q0p rfl rfl ?_;refine q0Z fi14 ?_;refine gQ ?_;refine cy4 hva f2 f3 f4 f5 ?_;refine eQ [] (hnew) ?_;cases hx:keyP b with
  |error e=>
   have he:=z5j b e hx;have he':((e:Int)=0)=False:=eq_false (by omega)
   rw [hx] at hsl;have hs1:=z6g hsl rfl;refine q0j [2] (hs1) rfl (by decide) (by repeat first|exact trivial|exact rfl|refine And.intro ?_ ?_) rfl rfl ?_
   simp only [afterO,Out.ren,SV.ren,mgA,sig,SObj.ren,SV.renL,List.set,List.map,Ah,he'];refine gy1 he' ?_;rfl
  |ok x=>
   obtain ⟨⟨sp,sv,sb⟩,n⟩:=x;have hsb:sb.length≤1099511627776:=z2X b _ _ (by omega) hx
   have hn:n≤b.length:=z2s _ _ _ hx;rw [hx] at hsl;have hs1:=z7F hsl rfl;rw [Ac] at hs1;have hen:=z8o b n hn;dsimp only;refine eQ [2] (hs1) ?_;by_cases hlt:n<b.length
   · rw [if_pos hlt] at hen;rw [if_pos hlt];refine eQ [2] (hen) ?_;rfl
   rw [if_neg hlt] at hen;rw [if_neg hlt];have hop:=j1X (p,v,kb) 1 sp sv sb hko hsb;have hol:=z6Q (p,v,kb) 1 sp sv sb;generalize opS (p,v,kb) 1 sp sv sb=r at*;obtain ⟨pl,e⟩:=r;dsimp only at hop hol⊢;refine eQ [2] (hen) ?_;by_cases h0:e=0
   · subst h0;rw [if_pos rfl];have hrd:=j4z pl (by omega)
     unfold ckP;refine cQ hop ?_;cases hy:rdT pl with
     |error e2=>
      have he:=j0M hy;have he':((e2:Int)=0)=False:=eq_false (by omega)
      rw [hy] at hrd;simp only [rdO] at hrd;refine cy1 hrd he' ?_;rfl
     |ok y=>
      obtain ⟨t,m⟩:=y;rw [hy] at hrd;simp only [rdO] at hrd;dsimp only;unfold ckT;by_cases c1:m<0
      · have g1:(m<0)=True:=eq_true c1;rw [if_pos (.inl c1)];refine cy1 hrd g1 ?_;rfl
      have g1:(m<0)=False:=eq_false c1;by_cases c2:1000000≤m
      · have g2:(1000000≤m)=True:=eq_true c2;rw [if_pos (.inr c2)];refine q0a hrd ?_;refine gy2 g1 g2 ?_;rfl
      have g2:(1000000≤m)=False:=eq_false c2;rw [if_neg (by rintro (h|h) <;>contradiction)]
      by_cases c3:skew<mxV true (IntKind.i64.wrap (t-now)) (IntKind.i64.wrap (now-t))
      · have g3:(skew<mxV true (IntKind.i64.wrap (t-now)) (IntKind.i64.wrap (now-t)))=True:=eq_true c3;rw [if_pos c3];refine q0a hrd ?_;refine gy3 g1 g2 g3 ?_;rfl
      have g3:(skew<mxV true (IntKind.i64.wrap (t-now)) (IntKind.i64.wrap (now-t)))=False:=eq_false c3;rw [if_neg c3];refine q0a hrd ?_;refine gy3 g1 g2 g3 ?_;rfl
   rw [if_neg h0];have h0':(e=0)=False:=eq_false h0;refine cy1 hop h0' ?_;rfl
def forceN{α:Type}(x:Nat)(f:Nat→α):α:=match x with
 |0=>f 0
 |n+1=>f (n+1)
theorem q1I{α:Type}(x:Nat)(f:Nat→α):forceN x f=f x:=by cases x<;>rfl
def rotN(n x:Nat):Nat:=x / 2^ n+x*2^ (32-n)%4294967296
def sg0N(x:Nat):Nat:=(rotN 7 x^^^ rotN 18 x) ^^^ (x / 8)
def sg1N(x:Nat):Nat:=(rotN 17 x^^^ rotN 19 x) ^^^ (x / 1024)
def bs0N(x:Nat):Nat:=(rotN 2 x^^^ rotN 13 x) ^^^ rotN 22 x
def bs1N(x:Nat):Nat:=(rotN 6 x^^^ rotN 11 x) ^^^ rotN 25 x
def chN(e f g:Nat):Nat:=(e&&& f) ^^^ ((4294967295-e) &&& g)
def majN(a b c:Nat):Nat:=((a&&& b) ^^^ (a&&& c)) ^^^ (b&&& c)
theorem q3Y(n x:Nat):rotW n (x:Int)=(rotN n x:Int):=by
 unfold rotW rotN;simp
theorem q3u(a b:Nat):xorW (a:Int) (b:Int)=((a^^^ b:Nat):Int):=by simp [xorW]
theorem q9O(a b:Nat):andW (a:Int) (b:Int)=((a&&& b:Nat):Int):=by simp [andW]
theorem j5g(x:Nat):sg0 (x:Int)=(sg0N x:Int):=by
 unfold sg0 sg0N;rw [q3Y,q3Y,q3u,show ((x:Int) / 8)=((x / 8:Nat):Int) by simp,q3u]
theorem j5l(x:Nat):sg1 (x:Int)=(sg1N x:Int):=by
 unfold sg1 sg1N;rw [q3Y,q3Y,q3u,show ((x:Int) / 1024)=((x / 1024:Nat):Int) by simp,q3u]
theorem j5c(x:Nat):bs0 (x:Int)=(bs0N x:Int):=by
 unfold bs0 bs0N;rw [q3Y,q3Y,q3Y,q3u,q3u]
theorem j5m(x:Nat):bs1 (x:Int)=(bs1N x:Int):=by
 unfold bs1 bs1N;rw [q3Y,q3Y,q3Y,q3u,q3u]
theorem j5f{e f g:Nat}(he:e≤4294967295):chW (e:Int) (f:Int) (g:Int)=(chN e f g:Int):=by
 unfold chW chN;rw [show (4294967295- (e:Int))=((4294967295-e:Nat):Int) by omega,q9O,q9O,q3u]
theorem j3v(a b c:Nat):majW (a:Int) (b:Int) (c:Int)=(majN a b c:Int):=by
 unfold majW majN;rw [q9O,q9O,q9O,q3u,q3u]
def schedN:Nat→List Nat→List Nat
 |0,l=>l
 |n+1,l=>forceN ((sg1N (l.getD 1 0)+l.getD 6 0+sg0N (l.getD 14 0)+l.getD 15 0)%4294967296) fun w=>schedN n (w :: l)
def wN(b:List UInt8)(t:Nat):Nat:=(wS b t).toNat
theorem q4e(b:List UInt8)(t:Nat):((wN b t:Nat):Int)=wS b t:=by
 have:=q1V b t;unfold wN;omega
def wsR(b:List UInt8):Nat→List Nat
 |0=>[]
 |t+1=>wN b t :: wsR b t
theorem q6H(b:List UInt8):∀ {t i:Nat},i<t→(wsR b t).getD i 0=wN b (t-1-i)
 |t+1,0,_=>rfl
 |t+1,i+1,h=>by
  show (wsR b t).getD i 0=_;rw [q6H b (by omega)]
  congr 1;omega
theorem z2D(b:List UInt8):∀ (n t:Nat),16≤t→schedN n (wsR b t)=wsR b (t+n)
 |0,t,_=>rfl
 |n+1,t,h=>by
  rw [schedN,q1I,q6H b (by omega),q6H b (by omega),q6H b (by omega),q6H b (by omega)]
  have e:(sg1N (wN b (t-1-1))+wN b (t-1-6)+sg0N (wN b (t-1-14))+wN b (t-1-15))%4294967296=wN b t:=by
   have h1:=z0J (b:=b) h;rw [←q4e,←q4e,←q4e,←q4e,←q4e,j5l,j5g] at h1;rw [show t-1-1=t-2 by omega,show t-1-6=t-7 by omega,show t-1-14=t-15 by omega,show t-1-15=t-16 by omega]
   unfold W32 at h1;omega
  rw [e];have:=z2D b n (t+1) (by omega)
  rw [show t+1+n=t+ (n+1) by omega] at this
  exact this
def rndN:List Nat→List Nat→Nat→Nat→Nat→Nat→Nat→Nat→Nat→Nat→List Nat
 |k :: ks,w :: ws,a,b,c,d,e,f,g,h=>
  forceN (h+bs1N e+chN e f g+k+w) fun t1=>forceN ((t1+ (bs0N a+majN a b c))%4294967296) fun a'=>forceN ((d+t1)%4294967296) fun e'=>rndN ks ws a' a b c e' e f g
 |_,_,a,b,c,d,e,f,g,h=>[a,b,c,d,e,f,g,h]
def cast8(l:List Nat):List Int:=l.map fun (n:Nat)=>(n:Int)
theorem j5n{k w a b c d e f g h:Nat}(he:e≤4294967295):rnd (k:Int) (w:Int) (cast8 [a,b,c,d,e,f,g,h])=cast8 [(h+bs1N e+chN e f g+k+w+ (bs0N a+majN a b c))%4294967296,a,b,c,(d+ (h+bs1N e+chN e f g+k+w))%4294967296,e,f,g]:=by
 have h1:t1S (k:Int) (w:Int) (cast8 [a,b,c,d,e,f,g,h])=((h+bs1N e+chN e f g+k+w:Nat):Int):=by
  show (h:Int)+bs1 (e:Int)+chW (e:Int) (f:Int) (g:Int)+k+w=_;rw [j5m,j5f he];omega
 have h2:t2S (cast8 [a,b,c,d,e,f,g,h])=((bs0N a+majN a b c:Nat):Int):=by
  show bs0 (a:Int)+majW (a:Int) (b:Int) (c:Int)=_;rw [j5c,j3v];omega
 unfold rnd;rw [h1,h2];simp only [cast8,AL,Cr,List.getD_cons_zero,List.getD_cons_succ];unfold W32;congr 1
def kN(t:Nat):Nat:=(kS t).toNat
theorem j2x{t:Nat}(h:t<64):((kN t:Nat):Int)=kS t:=by
 have:=j4p t h;unfold kN;omega
theorem z7E(b:List UInt8)(h:List Int):∀ (n t:Nat) (a b' c d e f g h':Nat),e≤4294967295→t+n≤64→rnds b h t=cast8 [a,b',c,d,e,f,g,h']→
 rnds b h (t+n)=cast8 (rndN ((List.range' t n).map kN) ((List.range' t n).map (wN b)) a b' c d e f g h')
 |0,t,a,b',c,d,e,f,g,h',he,ht,hr=>hr
 |n+1,t,a,b',c,d,e,f,g,h',he,ht,hr=>by
  rw [List.range'_succ,AL,AL,rndN,q1I,q1I,q1I];have h1:rnds b h (t+1)=rnd (kS t) (wS b t) (rnds b h t):=rfl;rw [hr,←j2x (by omega),←q4e,j5n he] at h1
  have:=z7E b h n (t+1) _ _ _ _ _ _ _ _ (by omega) (by omega) h1
  rw [show t+1+n=t+ (n+1) by omega] at this
  exact this
def kList:List Nat:=dat_ref04_constants.map Int.toNat
theorem z7S:(List.range' 0 64).map kN=kList:=by decide
theorem z7O(b:List UInt8):∀t,(wsR b t).reverse=(List.range t).map (wN b)
 |0=>rfl
 |t+1=>by rw [wsR,List.reverse_cons,z7O b t,BE,Bk];rfl
def wbN(b:List UInt8)(t:Nat):Nat:=256* (256* (256* (b.getD (4*t) 0).toNat+ (b.getD (4*t+1) 0).toNat)+ (b.getD (4*t+2) 0).toNat)+ (b.getD (4*t+3) 0).toNat
theorem j4F(b:List UInt8){t:Nat}(h:t<16):wbN b t=wN b t:=by
 have h1:=q4e b t;rw [q9Z h] at h1;simp only [wdP,byI,AK] at h1;unfold wbN;omega
def wbR(b:List UInt8):Nat→List Nat→List Nat
 |0,l=>l
 |n+1,l=>forceN (wbN b (15-n)) fun w=>wbR b n (w :: l)
theorem j0K(b:List UInt8):∀n,n≤16→wbR b n (wsR b (16-n))=wsR b 16
 |0,_=>rfl
 |n+1,h=>by
  rw [wbR,q1I,j4F b (by omega)]
  have:=j0K b n (by omega)
  rw [show 16-n=(15-n)+1 by omega] at this
  rw [show 16- (n+1)=15-n by omega]
  exact this
def blkE(a b c d e f g h:Nat):List Nat→List Nat
 | [x0,x1,x2,x3,x4,x5,x6,x7]=>[(a+x0)%4294967296,(b+x1)%4294967296,(c+x2)%4294967296,(d+x3)%4294967296,(e+x4)%4294967296,(f+x5)%4294967296,(g+x6)%4294967296,(h+x7)%4294967296]
 |_=>[]
def blkN(bl:List UInt8)(a b c d e f g h:Nat):List Nat:=blkE a b c d e f g h (rndN kList (schedN 48 (wbR bl 16 [])).reverse a b c d e f g h)
def blkF(bl:List UInt8):List Nat→List Nat
 | [a,b,c,d,e,f,g,h]=>forceN a fun a=>forceN b fun b=>forceN c fun c=>forceN d fun d=>forceN e fun e=>forceN f fun f=>forceN g fun g=>forceN h fun h=>blkN bl a b c d e f g h
 |_=>[]
theorem z7z(bl:List UInt8)(a b c d e f g h:Nat):blkF bl [a,b,c,d,e,f,g,h]=blkN bl a b c d e f g h:=by
 simp only [blkF,q1I]
theorem j3u(a b c d e f g h:Nat){r:List Nat}(hr:r.length=8):(blkE a b c d e f g h r).length=8∧∀x∈blkE a b c d e f g h r,x≤4294967295:=by
 match r,hr with
 | [x0,x1,x2,x3,x4,x5,x6,x7],_=>
  refine ⟨rfl,fun x hm=> ?_⟩;simp only [blkE,Bm,BW,or_false] at hm;rcases hm with rfl|rfl|rfl|rfl|rfl|rfl|rfl|rfl<;>omega
theorem j3a(a b c d e f g h:Nat){r:List Nat}(hr:r.length=8):((List.range 8).map fun i=>((cast8 [a,b,c,d,e,f,g,h]).getD i 0+ (cast8 r).getD i 0)%W32)=cast8 (blkE a b c d e f g h r):=by
 match r,hr with
 | [x0,x1,x2,x3,x4,x5,x6,x7],_=>simp [cast8,blkE,BE,W32]
theorem q8u:∀ (ks ws:List Nat) (a b c d e f g h:Nat),(rndN ks ws a b c d e f g h).length=8
 | [],_,a,b,c,d,e,f,g,h=>by unfold rndN;rfl
 |_ :: _,[],a,b,c,d,e,f,g,h=>by unfold rndN;rfl
 |k :: ks,w :: ws,a,b,c,d,e,f,g,h=>by
  rw [rndN,q1I,q1I,q1I];exact q8u ks ws _ _ _ _ _ _ _ _
theorem j2d(bl:List UInt8):(List.range' 0 64).map (wN bl)=(schedN 48 (wbR bl 16 [])).reverse:=by
 have h1:wbR bl 16 []=wsR bl 16:=j0K bl 16 (by decide)
 rw [h1,z2D bl 48 16 (by decide),z7O,List.range_eq_range']
theorem j2K(bl:List UInt8){a b c d e f g h:Nat}(he:e≤4294967295):blkS bl (cast8 [a,b,c,d,e,f,g,h])=cast8 (blkF bl [a,b,c,d,e,f,g,h]):=by
 have h1:=z7E bl (cast8 [a,b,c,d,e,f,g,h]) 64 0 a b c d e f g h he (by decide) rfl
 rw [z7S,j2d] at h1;rw [z7z];unfold blkN blkS;have h2:=q8u kList (schedN 48 (wbR bl 16 [])).reverse a b c d e f g h;generalize rndN kList (schedN 48 (wbR bl 16 [])).reverse a b c d e f g h=r at*;rw [Ac] at h1;rw [h1];exact j3a a b c d e f g h h2
def hashF(p:List UInt8):Nat→List Nat
 |0=>[0x6a09e667,0xbb67ae85,0x3c6ef372,0xa54ff53a,0x510e527f,0x9b05688c,0x1f83d9ab,0x5be0cd19]
 |k+1=>blkF ((p.take (64*k+64)).drop (64*k)) (hashF p k)
theorem j2I(bl:List UInt8){l:List Nat}(h:l.length=8):(blkF bl l).length=8∧∀x∈blkF bl l,x≤4294967295:=by
 match l,h with
 | [a,b,c,d,e,f,g,h],_=>
  rw [z7z];exact j3u a b c d e f g h (q8u _ _ _ _ _ _ _ _ _ _)
theorem z3p(p:List UInt8):∀k,(hashF p k).length=8∧∀x∈hashF p k,x≤4294967295
 |0=>⟨rfl,fun x hx=>by simp [hashF] at hx;omega⟩
 |k+1=>j2I _ (z3p p k).1
theorem z2w(p:List UInt8):∀k,hashS p k=cast8 (hashF p k)
 |0=>rfl
 |k+1=>by
  rw [hashS,z2w p k,hashF];have h:=z3p p k;generalize hashF p k=l at*
  match l,h with
  | [a,b,c,d,e,f,g,h'],⟨_,h2⟩=>exact j2K _ (h2 e (by simp))
def wordF(l:List Nat)(i:Nat):UInt8:=UInt8.ofNat ((l.getD (i / 4) 0) / 2^ (24-8* (i%4))%256)
def shaF(b:List UInt8):List UInt8:=(List.range 32).map (wordF (hashF (padS b) (blksN b)))
theorem z6O(b:List UInt8):shaS b=shaF b:=by
 unfold shaS shaF bytesS;rw [z2w];apply Bg;intro i hi;have key:∀ (l:List Nat) (j:Nat),((cast8 l).getD j 0).toNat=l.getD j 0:=fun l j=>by
  unfold cast8;rw [Aa,Aa,AG];cases l[j]?<;>rfl
 unfold wordB wordF;rw [key]
def hmF(k b:List UInt8):List UInt8:=shaF (hkS k 92++shaF (hkS k 54++b))
theorem z2i(k b:List UInt8):hmS k b=hmF k b:=by
 unfold hmS hmF;rw [z6O,z6O]
theorem dk32{p v:Int}{b:List UInt8}(u use:Nat)(hb:b.length=32):dkS (p,v,b) u use=hmF b (four 1++(four u++ [UInt8.ofNat use])++ [0]++ []++four 256):=by
 rw [←z2i];show kdfS b (four u++ [UInt8.ofNat use]) [] b.length=_;rw [hb];show (kacc b (four u++ [UInt8.ofNat use]) [] 32 1).take 32=_;have h:kacc b (four u++ [UInt8.ofNat use]) [] 32 1=kblk b (four u++ [UInt8.ofNat use]) [] 32 1:=AI _;rw [h,Ab (by rw [q3T];decide)]
 rfl
def k32(c:UInt8):List UInt8:=List.replicate 32 c
theorem q1G(c:UInt8):(k32 c).length=32:=Bv
def conf16:List UInt8:=List.replicate 16 2
def pln0:List UInt8:=[48,15,160,8,24,6,0,0,0,0,3,232,161,3,2,1,5]
def dEnc:List UInt8:=[39,63,9,154,12,104,197,249,171,54,241,186,242,220,77,25,64,229,80,42,136,174,233,14,165,132,253,146,115,252,52,112]
def dMac:List UInt8:=[146,9,198,93,59,59,11,126,27,87,174,232,9,28,34,130,179,159,8,203,137,70,209,184,101,246,89,22,6,37,137,194]
def dMac3:List UInt8:=[47,87,18,41,60,122,86,67,172,113,227,135,41,56,32,165,204,72,30,67,94,67,96,54,211,146,89,73,61,145,188,135]
def strm:List UInt8:=[181,132,243,161,178,63,11,59,63,54,240,1,150,6,62,120,173,156,250,119,212,83,35,28,47,27,169,124,5,161,141,201]
def ci0:List UInt8:=[2,2,2,2,2,2,2,2,2,2,2,2,2,2,2,2,133,139,83,169,170,57,11,59,63,54,243,233,55,5,60,121,168]
def tag0:List UInt8:=[97,84,42,170,240,106,49,93,238,87,23,236,63,108,25,12,39,164,210,237,73,164,106,39,4,214,196,107,187,15,140,181]
def tag3:List UInt8:=[110,34,77,85,20,15,213,64,236,17,250,5,32,140,111,98,53,3,241,143,27,169,103,40,136,186,13,26,116,159,33,145]
theorem z7p:plnS 1000 5=pln0:=by kernel_rfl
theorem z1k(v:Int):dkS (2,v,k32 1) 1 170=dEnc:=by
 rw [dk32 1 170 (q1G 1)]
 kernel_rfl
theorem z1h(v:Int):dkS (2,v,k32 1) 1 85=dMac:=by
 rw [dk32 1 85 (q1G 1)]
 kernel_rfl
theorem z9w(v:Int):dkS (2,v,k32 3) 1 85=dMac3:=by
 rw [dk32 1 85 (q1G 3)]
 kernel_rfl
theorem j1x:hmS dEnc (conf16++four 1)=strm:=by
 rw [z2i]
 kernel_rfl
theorem z2f:hmS dMac ci0=tag0:=by
 rw [z2i]
 kernel_rfl
theorem j2c:hmS dMac3 ci0=tag3:=by
 rw [z2i]
 kernel_rfl
theorem j0m(v:Int):ciS2 (2,v,k32 1) 1 conf16 (plnS 1000 5)=ci0:=by
 unfold ciS2;rw [z1k,z7p];have h:ksS dEnc conf16 pln0=(List.range 17).map fun i=>pln0.getD i 0^^^ strm.getD i 0:=by
  show (List.range 17).map (ksB dEnc conf16 pln0)=_;apply Bg;intro i hi;have hi':i<17:=Bw.1 hi;unfold ksB;rw [show i / 32+1=1 by omega,j1x,show i%32=i by omega]
 have h4:conf16++((List.range 17).map fun i=>pln0.getD i 0^^^ strm.getD i 0)=ci0:=by kernel_rfl
 rw [h,h4]
theorem j3r(v:Int):seS2 (2,v,k32 1) 1 conf16 (plnS 1000 5)=ci0++tag0:=by
 unfold seS2;rw [j0m,z1h,z2f]
def el0:List UInt8:=keyS (2,3,ci0++tag0)
theorem q5d:el0.length=81:=by kernel_rfl
theorem q6u:keyP el0= .ok ((2,3,ci0++tag0),81):=by kernel_rfl
theorem op0(v:Int)(hv:v=3):opS (2,v,k32 1) 1 2 3 (ci0++tag0)=(pln0,0):=by
 subst hv;rw [q9i];unfold opS2;rw [if_pos (by decide),if_pos (by decide),if_neg (by decide),if_neg (by decide)]
 have e1:(ci0++tag0).take ((ci0++tag0).length-32)=ci0:=by kernel_rfl
 have e2:(ci0++tag0).drop ((ci0++tag0).length-32)=tag0:=by kernel_rfl
 rw [e1,e2,z1h,z2f,if_pos rfl,z1k];have h:ksS dEnc (ci0.take 16) (ci0.drop 16)=pln0:=by
  have h1:=j0m 3;unfold ciS2 at h1;rw [z1k,z7p] at h1;have h2:ci0.take 16=conf16:=by kernel_rfl
  have h3:ci0.drop 16=ksS dEnc conf16 pln0:=by
   rw [←h1];exact List.drop_left' rfl
  rw [h2,h3];exact j2p dEnc conf16 pln0
 rw [h]
theorem op3:opS (2,3,k32 3) 1 2 3 (ci0++tag0)=([],10):=by
 rw [q9i];unfold opS2;rw [if_pos (by decide),if_pos (by decide),if_neg (by decide),if_neg (by decide)]
 have e1:(ci0++tag0).take ((ci0++tag0).length-32)=ci0:=by kernel_rfl
 have e2:(ci0++tag0).drop ((ci0++tag0).length-32)=tag0:=by kernel_rfl
 rw [e1,e2,z9w,j2c,if_neg (by decide)]
theorem rd0:rdT pln0= .ok (1000,5):=by kernel_rfl
theorem z3X{k:Key}{now skew:Int}{b:List UInt8}{s:Key}{n:Nat}(ha:argOk k 2 now skew=true)(hk:keyP b= .ok (s,n))(hn:¬n<b.length):ckG k 2 b now skew=if (opS k 1 s.1 s.2.1 s.2.2).2=0 then ckP (opS k 1 s.1 s.2.1 s.2.2).1 now skew else (0,0,(opS k 1 s.1 s.2.1 s.2.2).2):=by
 unfold ckG;rw [if_pos ha,hk];dsimp only;rw [if_neg hn]
theorem ck1:ckG (2,3,k32 1) 2 el0 1300 300=(1000,5,0):=by
 rw [z3X (by decide) q6u (by rw [q5d];decide)]
 dsimp only;rw [op0 3 rfl,if_pos rfl];unfold ckP;rw [rd0];decide
theorem ck2:ckG (2,3,k32 1) 2 el0 1301 300=(0,0,330):=by
 rw [z3X (by decide) q6u (by rw [q5d];decide)]
 dsimp only;rw [op0 3 rfl,if_pos rfl];unfold ckP;rw [rd0];decide
theorem ck3:ckG (2,3,k32 1) 2 el0 1000 (-1)=(0,0,2):=by
 unfold ckG;rw [if_neg (by decide)]
theorem ck4:ckG (2,3,k32 1) 2 el0 1000 0=(1000,5,0):=by
 rw [z3X (by decide) q6u (by rw [q5d];decide)]
 dsimp only;rw [op0 3 rfl,if_pos rfl];unfold ckP;rw [rd0];decide
theorem ck5:ckG (2,3,k32 3) 2 el0 1000 0=(0,0,10):=by
 rw [z3X (by decide) q6u (by rw [q5d];decide)]
 dsimp only;rw [op3,if_neg (by decide)]
theorem ck6:ckG (2,4,k32 1) 2 el0 1000 0=(0,0,9):=by
 rw [z3X (by decide) q6u (by rw [q5d];decide)]
 dsimp only;have h:opS (2,4,k32 1) 1 2 3 (ci0++tag0)=([],9):=by
  rw [q9i];unfold opS2;rw [if_pos (by decide),if_neg (by decide)]
 rw [h,if_neg (by decide)]
def elX:List UInt8:=el0.set 80 (el0.getD 80 0+1)
def tagX:List UInt8:=tag0.set 31 (tag0.getD 31 0+1)
theorem j1W:keyP elX= .ok ((2,3,ci0++tagX),81):=by kernel_rfl
theorem z1G:elX.length=81:=by kernel_rfl
theorem ck7:ckG (2,3,k32 1) 2 elX 1000 0=(0,0,10):=by
 rw [z3X (by decide) j1W (by rw [z1G];decide)]
 dsimp only;have h:opS (2,3,k32 1) 1 2 3 (ci0++tagX)=([],10):=by
  rw [q9i];unfold opS2;rw [if_pos (by decide),if_pos (by decide),if_neg (by decide),if_neg (by decide)]
  have e1:(ci0++tagX).take ((ci0++tagX).length-32)=ci0:=by kernel_rfl
  have e2:(ci0++tagX).drop ((ci0++tagX).length-32)=tagX:=by kernel_rfl
  rw [e1,e2,z1h,z2f,if_neg (by decide)]
 rw [h,if_neg (by decide)]
theorem j1u:keyP (el0.take 80)= .error 4:=by kernel_rfl
theorem ck8:ckG (2,3,k32 1) 2 (el0.take 80) 1000 0=(0,0,4):=by
 unfold ckG;rw [if_pos (by decide),j1u]
 rfl
theorem q7a(n:Int):PC Tryz.prog 13 [rI n] (rI n):=by
 refine q0p rfl rfl ?_;refine rQ fi13 ?_;trivial
def kfP(c:UInt8)(i:Nat):List UInt8:=List.replicate i c++List.replicate (32-i) 0
theorem j3n(c:UInt8){i:Nat}(hi:i≤32):(kfP c i).length=32:=by simp [kfP];omega
theorem j1n(c:UInt8){i:Nat}(hi:i<32):(kfP c i).set i c=kfP c (i+1):=by
 unfold kfP;rw [Ch _ _ (by simp)]
 simp only [Bv,Nat.sub_self];rw [show 32-i=(32- (i+1))+1 by omega,BM,Cb,BT,List.append_assoc]
 rfl
theorem z7M(c:UInt8)(v:Int):PC Tryz.prog 22 [.raw (.int .u8 c.toNat),rI v] (.agg [rI 2,rI v,.isl .u8 (k32 c)]):=by
 refine q0i rfl rfl ?_;refine rQ fi22 ?_;refine q0d (ι:=Nat) (fun i=>[(6,rI i)]) (fun i=>[.cells 24 [rI 0,rI 0,.raw (.slice none 0 0)],.row .u8 (kfP c i)]) (fun i=>32-i) (fun i=>i≤32) 0 (Ai _) rfl ?_ ?_
 · with_reducible refine sxE ?_;trivial
 intro i hi;have hl:=j3n c hi;have hwr:=wsx i (by omega)
 by_cases h:i<32
 · have f1:((i:Int) <32)=True:=eq_true (by omega)
   refine gy3 f1 hl Ac ?_;refine ⟨⟨by omega,by omega⟩,⟨by omega,by rw [UInt8.ofNat_toNat]⟩,i+1,h,by dsimp only;omega,?_,?_⟩
   · rw [AB,j1n c h]
   with_reducible refine sx1 hwr ?_;trivial
 obtain rfl:i=32:=by omega
 have f1:(((32:Nat):Int) <32)=False:=eq_false (by omega)
 refine gy2 f1 hl ?_;simp [kfP,k32]
theorem q2N(v:Int)(kb:List UInt8)(kind:Int)(b:List UInt8)(now skew time micro no:Int)(hkb:kb.length≤1048576)(hb:b.length≤1048576):PC Tryz.prog 23 [.agg (KeyT.cells (2,v,kb)),.agg [rI kind,.isl .u8 b],rI now,rI skew,rI time,rI micro,rI no] (rB (decide (ckG (2,v,kb) kind b now skew=(time,micro,no)))):=by
 have hc:=q5M (2,v,kb) kind b now skew ⟨trivial,trivial,⟨show kb.length≤1125899906842624 by omega,fun _ _=>trivial⟩⟩ hb
 generalize ckG (2,v,kb) kind b now skew=x at*;obtain ⟨x1,x2,x3⟩:=x;simp only [ckO] at hc;refine q0p rfl rfl ?_;refine q0Z fi23 ?_;refine gQ ?_;refine q0a hc ?_;by_cases c1:x1=time
 · by_cases c2:x2=micro
   · refine gy2 c1 c2 ?_;refine cQ (q7a x3) ?_;simp
   refine gy2 c1 c2 ?_;simp [c2]
 refine uQ 600 _ ?_;simp (maxSteps:=3000000) only [c1,go_sem,↓zA,↓reduceIte,↓reduceDIte] <;>try simp only [zB]
 simp [c1]
def fnO(x:Int×Int×Int×Int):SV:=.tup [rI x.1,rI x.2.1,rI x.2.2.1,rI x.2.2.2]
def fnG(f:Key→Int×Int×Int):Nat→Int→List Key→Int×Int×Int×Int
 |_,first,[]=>(0,0,0,first)
 |i,first,k :: ks=>if (f k).2.2=0 then ((i:Int),(f k).1,(f k).2.1,0) else fnG f (i+1) (if i=0 then (f k).2.2 else first) ks
def fstG(f:Key→Int×Int×Int)(ks:List Key)(i:Nat):Int:=if i=0 then 9 else (f (ks.getD 0 KeyT.dflt)).2.2
theorem z0P{α:Type}{l:List α}{i:Nat}(h:i<l.length)(d:α):l.drop i=l.getD i d :: l.drop (i+1):=by
 rw [List.drop_eq_getElem_cons h,Aa,Ae h];rfl
theorem z4I(ks:List Key)(kind:Int)(b:List UInt8)(now skew:Int)(hks:∀k∈ks,KeyT.ok k)(hkl:ks.length≤1000)(hb:b.length≤1048576):PC Tryz.prog 19 [.isl KeyT ks,.agg [rI kind,.isl .u8 b],rI now,rI skew] (fnO (fnG (fun k=>ckG k kind b now skew) 0 9 ks)):=by
 refine q0p rfl rfl ?_;have hcc:=fun k ho=>q5M k kind b now skew ho hb;generalize hF:(fun k=>ckG k kind b now skew)=F at*;have hcc:∀k,KeyT.ok k→PC Tryz.prog 14 [.agg (KeyT.cells k),.agg [rI kind,.isl .u8 b],rI now,rI skew] (ckO (F k)):=by rw [←hF];exact hcc
 refine q0Z fi19 ?_;refine gQ ?_;obtain ⟨R,hR⟩:∃R,R=fnG F 0 9 ks:=⟨_,rfl⟩;rw [←hR];refine q1q (ι:=Nat) (fun i=>[(17,rI i),(12,rI (fstG F ks i))]) (fun i=>[.cells 27 [rI kind,.isl .u8 b]]) (fun i=>ks.length-i) (fun i=>i≤ks.length∧R=fnG F i (fstG F ks i) (ks.drop i)) 0 ⟨Ai _,by rw [Az];exact hR⟩ 1 rfl (by decide) (fun _=>rfl) (fun _=>rfl) (fun _=>rfl) ?_ ?_
 · with_reducible refine sxE ?_
   rfl
 rintro i ⟨hi,hRi⟩;have hwr:=wsx i (by omega)
 by_cases h:i<ks.length
 · rw [z0P h KeyT.dflt] at hRi;have hm:ks.getD i KeyT.dflt∈ks:=by
    rw [Aa,Ae h];exact Bq _
   have hko:=hks _ hm;have hf0:i=0→fstG F ks (i+1)=(F (ks.getD i KeyT.dflt)).2.2:=fun e=>by subst e;rfl
   have hf1:i≠0→fstG F ks (i+1)=fstG F ks i:=fun e=>by unfold fstG;rw [if_neg e,if_neg (by omega)]
   have f1:((i:Int) < (ks.length:Int))=True:=eq_true (by omega)
   generalize hk:ks.getD i KeyT.dflt=k at*;have hc:=hcc k hko;rw [fnG] at hRi;generalize F k=x at*;obtain ⟨kp,kv,kb⟩:=k;obtain ⟨x1,x2,x3⟩:=x;simp only [ckO] at hc;refine gy2 f1 hk ?_;refine ⟨⟨by omega,h⟩,q0a hc ?_⟩
   dsimp only at hRi hf0;by_cases c0:x3=0
   · rw [if_pos c0] at hRi;subst c0;refine gQ ?_;rw [hRi];rfl
   have c0':(x3=0)=False:=eq_false c0;rw [if_neg c0] at hRi;by_cases ci:i=0
   · have ci':((i:Int)=0)=True:=eq_true (by omega)
     rw [if_pos ci,←hf0 ci] at hRi;refine gy2 c0' ci' ?_;refine ⟨i+1,⟨h,hRi⟩,by dsimp only;omega,⟨[_],rfl⟩,?_⟩
     rw [←hf0 ci];with_reducible refine sx1 hwr ?_;trivial
   have ci':((i:Int)=0)=False:=eq_false (by omega)
   rw [if_neg ci,←hf1 ci] at hRi;refine gy2 c0' ci' ?_;refine ⟨i+1,⟨h,hRi⟩,by dsimp only;omega,⟨[_],rfl⟩,?_⟩
   rw [←hf1 ci];with_reducible refine sx1 hwr ?_;trivial
 obtain rfl:i=ks.length:=by omega
 have f1:((ks.length:Int) < (ks.length:Int))=False:=eq_false (by omega)
 rw [List.drop_length] at hRi;refine gy1 f1 ?_;rw [hRi];rfl
def irx9(r:Array Oper):XI:=⟨135,[.tmp 0],[(.reg [o1 0 (.mov (.const (.bool false)))])],r,[(.reg [o1 3 (.mov (ci 0))]),(.blk 0 (.loop (.seq (.seq (.reg [mv 18 3,o1 19 (.bin .lss 0 (.tmp 18) (ci 16))]) (.cond (.tmp 19) .skip (.exit 0))) (.seq (.blk 1 (.reg [mv 22 2,mv 23 3,o1 24 (.ia 1 (.tmp 22) (.tmp 23)),o0 (.st 1 (.tmp 24) (.const (.int .u8 2)))])) (.reg [mv 20 3,o1 21 (.bin .add 0 (.tmp 20) (ci 1)),mv 3 21]))))),(.reg [o1 26 (.ld (some 3) (.tmp 1)),mv 27 2,o1 28 (.call (.func 10) [(.tmp 26),(ci 1000),(ci 5),(.tmp 27)]),mv 25 28,ex 29 0 25,ex 30 1 25,o1 4 (.new 27 [(.int .i64 0),(.slice none 0 0)]),o0 (.st 2 (.tmp 4) (.tmp 29)),mv 5 30]),(.reg [mv 31 5,o1 32 (.call (.func 13) [(.tmp 31)]),o1 33 (.bin .neq 0 (.tmp 32) (ci 0)),mv 34 33,oF 35 (.fa 1 (.tmp 4)) 34,oF 36 (.ld none (.tmp 35)) 34,oF 37 (.len false (.tmp 36)) 34,oF 38 (.bin .neq 0 (.tmp 37) (ci 81)) 34,o1 39 (.pick (.tmp 34) (.const (.bool true)) (.tmp 38)),mv 40 39,oF 41 (.fa 0 (.tmp 4)) 40,oF 42 (.ld none (.tmp 41)) 40,oF 43 (.bin .neq 0 (.tmp 42) (ci 2)) 40,o1 44 (.pick (.tmp 40) (.const (.bool true)) (.tmp 43)),mv 45 44,oF 46 (.ld (some 3) (.tmp 1)) 45,oF 47 (.ld (some 2) (.tmp 4)) 45,oF 48 (.call (.func 23) [(.tmp 46),(.tmp 47),(ci 1300),(ci 300),(ci 1000),(ci 5),(ci 0)]) 45,oF 49 (.un .not (.tmp 48)) 45,o1 50 (.pick (.tmp 45) (.const (.bool true)) (.tmp 49)),mv 51 50,oF 52 (.ld (some 3) (.tmp 1)) 51,oF 53 (.ld (some 2) (.tmp 4)) 51,oF 54 (.call (.func 23) [(.tmp 52),(.tmp 53),(ci 1301),(ci 300),(ci 0),(ci 0),(ci 330)]) 51,oF 55 (.un .not (.tmp 54)) 51,o1 56 (.pick (.tmp 51) (.const (.bool true)) (.tmp 55)),mv 57 56,oF 58 (.ld (some 3) (.tmp 1)) 57,oF 59 (.ld (some 2) (.tmp 4)) 57,oF 60 (.call (.func 23) [(.tmp 58),(.tmp 59),(ci 1000),(.const (.int .i64 (-1))),(ci 0),(ci 0),(ci 2)]) 57,oF 61 (.un .not (.tmp 60)) 57,o1 62 (.pick (.tmp 57) (.const (.bool true)) (.tmp 61))]),(.cond (.tmp 62) (.seq (.reg [o1 0 (.mov (.const (.bool false)))]) .ret) .skip),(.drw [(true,o1 65 (.ld (some 3) (.tmp 1))),(true,o1 67 (.ld (some 2) (.tmp 4))),(false,o1 64 (.call (.func 22) [(.const (.int .u8 3)),(ci 3)])),(false,o1 66 (.bsl (.prod (.int .i64) (.prod (.int .i64) (.slice .u8))) 2 3 [(.int .i64 0),(.int .i64 0),(.slice none 0 0),(.int .i64 0),(.int .i64 0),(.slice none 0 0)] [(0,(.tmp 64)),(1,(.tmp 65))])),(false,o1 68 (.call (.func 19) [(.tmp 66),(.tmp 67),(ci 1000),(ci 0)])),(true,mv 63 68),(true,ex 69 0 63),(true,ex 70 1 63),(true,ex 71 2 63),(true,ex 72 3 63),(true,mv 6 69),(true,mv 7 70),(true,mv 8 71),(true,mv 9 72)]),(.reg [o1 74 (.ld (some 3) (.tmp 1)),mv 75 2,o1 76 (.call (.func 10) [(.tmp 74),(ci 1000),(ci 1000000),(.tmp 75)]),mv 73 76,ex 77 0 73,ex 78 1 73,o1 10 (.new 27 [(.int .i64 0),(.slice none 0 0)]),o0 (.st 2 (.tmp 10) (.tmp 77)),mv 11 78]),(.reg [o1 80 (.ld (some 3) (.tmp 1)),o1 81 (.call (.func 10) [(.tmp 80),(ci 1000),(ci 5),(.const (.slice none 0 0))]),mv 79 81,ex 82 0 79,ex 83 1 79,o1 12 (.new 27 [(.int .i64 0),(.slice none 0 0)]),o0 (.st 2 (.tmp 12) (.tmp 82)),mv 13 83]),(.reg [mv 84 6,o1 85 (.bin .neq 0 (.tmp 84) (ci 1)),mv 86 85,oF 87 (.mov (.tmp 7)) 86,oF 88 (.bin .neq 0 (.tmp 87) (ci 1000)) 86,o1 89 (.pick (.tmp 86) (.const (.bool true)) (.tmp 88)),mv 90 89,oF 91 (.mov (.tmp 8)) 90,oF 92 (.bin .neq 0 (.tmp 91) (ci 5)) 90,o1 93 (.pick (.tmp 90) (.const (.bool true)) (.tmp 92)),mv 94 93,oF 95 (.mov (.tmp 9)) 94,oF 96 (.call (.func 13) [(.tmp 95)]) 94,oF 97 (.bin .neq 0 (.tmp 96) (ci 0)) 94,o1 98 (.pick (.tmp 94) (.const (.bool true)) (.tmp 97)),mv 99 98,oF 100 (.mov (.tmp 11)) 99,oF 101 (.bin .neq 0 (.tmp 100) (ci 2)) 99,o1 102 (.pick (.tmp 99) (.const (.bool true)) (.tmp 101)),mv 103 102,oF 104 (.mov (.tmp 13)) 103,oF 105 (.bin .neq 0 (.tmp 104) (ci 2)) 103,o1 106 (.pick (.tmp 103) (.const (.bool true)) (.tmp 105))]),(.cond (.tmp 106) (.seq (.reg [o1 0 (.mov (.const (.bool false)))]) .ret) .skip),(.reg [o1 107 (.bsl .u8 0 1 [] []),o1 108 (.fa 1 (.tmp 4)),o1 109 (.ld none (.tmp 108)),o1 110 (.app .u8 1 (.tmp 107) (.tmp 109)),o1 111 (.bld [(.int .i64 0),(.slice none 0 0)] (.fields [(0,1),(1,1)]) [(0,(ci 2)),(1,(.tmp 110))]),o1 14 (.new 27 [(.int .i64 0),(.slice none 0 0)]),o0 (.st 2 (.tmp 14) (.tmp 111))]),(.reg [o1 112 (.fa 1 (.tmp 14)),o1 113 (.ld none (.tmp 112)),o1 114 (.ia 1 (.tmp 113) (ci 80)),o1 115 (.ld none (.tmp 114)),o1 116 (.bin .add 0 (.tmp 115) (.const (.int .u8 1))),o1 117 (.ia 1 (.tmp 113) (ci 80)),o0 (.st 1 (.tmp 117) (.tmp 116))]),(.reg [o1 118 (.fa 1 (.tmp 4)),o1 119 (.ld none (.tmp 118)),o1 120 (.sl (some 1) (.tmp 119) none (some (ci 80))),o1 121 (.bld [(.int .i64 0),(.slice none 0 0)] (.fields [(0,1),(1,1)]) [(0,(ci 2)),(1,(.tmp 120))]),o1 15 (.new 27 [(.int .i64 0),(.slice none 0 0)]),o0 (.st 2 (.tmp 15) (.tmp 121))]),(.drw [(true,o1 122 (.ld (some 3) (.tmp 1))),(true,o1 123 (.ld (some 2) (.tmp 14))),(false,o1 124 (.call (.func 23) [(.tmp 122),(.tmp 123),(ci 1000),(ci 0),(ci 0),(ci 0),(ci 10)])),(true,mv 125 124),(true,oT 126 (.ld (some 3) (.tmp 1)) 125),(true,oT 127 (.ld (some 2) (.tmp 15)) 125),(false,oT 128 (.call (.func 23) [(.tmp 126),(.tmp 127),(ci 1000),(ci 0),(ci 0),(ci 0),(ci 4)]) 125),(true,o1 129 (.pick (.tmp 125) (.tmp 128) (.const (.bool false)))),(true,mv 130 129),(true,oT 132 (.ld (some 2) (.tmp 4)) 130),(false,oT 131 (.call (.func 22) [(.const (.int .u8 1)),(ci 4)]) 130),(false,oT 133 (.call (.func 23) [(.tmp 131),(.tmp 132),(ci 1000),(ci 0),(ci 0),(ci 0),(ci 9)]) 130),(true,o1 134 (.pick (.tmp 130) (.tmp 133) (.const (.bool false)))),(true,mv 0 134)]),.ret]⟩
theorem fix9:xinfo Tryz.prog 9=some (irx9 (xreg Tryz.prog 9)):=by kernel_rfl
attribute [go_sem] irx9
def knT:List SV:=[.raw (.bool false),.ptr 0 0,.bld 1 .u8 16]++List.replicate 13 .any++ [.agg [rI 2,rI 3,.isl .u8 (k32 1)],.bld 1 .u8 16]++List.replicate 117 .any
def cfP(i:Nat):List UInt8:=List.replicate i 2++List.replicate (16-i) 0
theorem j1L{i:Nat}(hi:i≤16):(cfP i).length=16:=by simp [cfP];omega
theorem j1g{i:Nat}(hi:i<16):(cfP i).set i 2=cfP (i+1):=by
 unfold cfP;rw [Ch _ _ (by simp)]
 simp only [Bv,Nat.sub_self];rw [show 16-i=(16- (i+1))+1 by omega,BM,Cb,BT,List.append_assoc]
 rfl
theorem mk1:PC Tryz.prog 10 [.agg (KeyT.cells (2,3,k32 1)),rI 1000,rI 5,.isl .u8 conf16] (.tup [.agg [rI 2,.isl .u8 el0],rI 0]):=by
 have h:=z5I (2,3,k32 1) 1000 5 conf16 ⟨trivial,trivial,⟨show (k32 1).length≤1125899906842624 by rw [q1G];decide,fun _ _=>trivial⟩⟩
 unfold mkG at h;rw [if_pos ⟨by decide,by decide⟩,j0Z,j3r 3] at h
 exact h
theorem mk2:PC Tryz.prog 10 [.agg (KeyT.cells (2,3,k32 1)),rI 1000,rI 5,.isl .u8 []] (.tup [.agg [rI 0,.isl .u8 []],rI 2]):=by
 have h:=z5I (2,3,k32 1) 1000 5 [] ⟨trivial,trivial,⟨show (k32 1).length≤1125899906842624 by rw [q1G];decide,fun _ _=>trivial⟩⟩
 rwa [j3H (by decide)] at h
theorem z4o{F:Key→Int×Int×Int}{a b:Key}{x y:Int}(h1:F a=(0,0,10))(h2:F b=(x,y,0)):fnG F 0 9 [a,b]=(1,x,y,0):=by
 rw [fnG,h1,if_neg (by decide),fnG,h2,if_pos rfl]
 rfl
theorem fn0:fnG (fun k=>ckG k 2 el0 1000 0) 0 9 [(2,3,k32 3),(2,3,k32 1)]=(1,1000,5,0):=z4o ck5 ck4
theorem z2G(c:UInt8):(((UInt8.ofNat (IntKind.u8.wrap ((c.toNat:Int)+1)).toNat).toNat:Nat):Int)=IntKind.u8.wrap ((c.toNat:Int)+1):=by
 rw [u8wrapR,Bx];omega
theorem j3X(c:UInt8):UInt8.ofNat (IntKind.u8.wrap ((c.toNat:Int)+1)).toNat=c+1:=by
 apply BF.mp;have h:=z2G c;rw [u8wrapR] at*;rw [UInt8.toNat_add];have:(1:UInt8).toNat=1:=rfl;omega
theorem q4p: @SoundI noGhost Tryz.prog (retF Tryz.prog [.tmp 0] (PK (rB true))) ⟨0,(irx9 #[]).post.map .ic,knT,[.cells 24 [rI 2,rI 3,.isl .u8 (k32 1)],.row .u8 (List.replicate 16 0)]⟩:=by
 letI:Ghost:=noGhost
 unfold knT;refine gQ ?_;refine q0d (ι:=Nat) (fun i=>[(3,rI i)]) (fun i=>[.cells 24 [rI 2,rI 3,.isl .u8 (k32 1)],.row .u8 (cfP i)]) (fun i=>16-i) (fun i=>i≤16) 0 (Ai _) rfl ?_ ?_
 · with_reducible refine sxE ?_;trivial
 intro i hi;have hl:=j1L hi;have hwr:=wsx i (by omega)
 by_cases h:i<16
 · have f1:((i:Int) <16)=True:=eq_true (by omega)
   refine gy3 f1 hl Ac ?_;refine ⟨⟨by omega,by omega⟩,⟨by omega,by decide⟩,i+1,h,by dsimp only;omega,?_,?_⟩
   · rw [show UInt8.ofNat 2=2 from rfl,j1g h]
   with_reducible refine sx1 hwr ?_;trivial
 obtain rfl:i=16:=by omega
 have f1:(((16:Nat):Int) <16)=False:=eq_false (by omega)
 refine uQ 8 _ ?_;with_reducible refine sy2 f1 hl ?_
 refine q0X 1 rfl rfl (by rw [hl];decide) ?_ ?_ ?_
 · with_reducible refine sxE ?_;trivial
 · with_reducible refine sxE ?_
   omega
 with_reducible refine sxE ?_
 have hcf:List.take 16 (cfP 16)=conf16:=by decide
 rw [hcf];refine gQ ?_;refine q0a mk1 ?_;have hl81:=q5d;refine gy1 hl81 ?_;refine q0a (q7a 0) ?_;have f81:(((81:Nat):Int)=81)=True:=eq_true rfl;refine gy2 hl81 f81 ?_;refine q0a (q2N 3 (k32 1) 2 el0 1300 300 1000 5 0 (by rw [q1G];decide) (by rw [hl81];decide)) ?_
 rw [ck1];refine gQ ?_;refine q0a (q2N 3 (k32 1) 2 el0 1301 300 0 0 330 (by rw [q1G];decide) (by rw [hl81];decide)) ?_
 rw [ck2];refine gQ ?_;refine q0a (q2N 3 (k32 1) 2 el0 1000 (-1) 0 0 2 (by rw [q1G];decide) (by rw [hl81];decide)) ?_
 rw [ck3];refine gQ ?_;refine cR (z7M 3 3) ?_;refine q0B 3 (by decide) ?_
 with_reducible refine sxE ?_
 have hks:∀k∈ [((2,3,k32 3):Key),(2,3,k32 1)],KeyT.ok k:=by
  intro k hk;rcases Bm.mp hk with rfl|hk
  · exact ⟨trivial,trivial,⟨show (k32 3).length≤1125899906842624 by rw [q1G];decide,fun _ _=>trivial⟩⟩
  obtain rfl:=Cw.mp hk;exact ⟨trivial,trivial,⟨show (k32 1).length≤1125899906842624 by rw [q1G];decide,fun _ _=>trivial⟩⟩
 refine q0e (z4I [(2,3,k32 3),(2,3,k32 1)] 2 el0 1000 0 hks (by decide) (by rw [hl81];decide)) ?_
 rw [fn0];simp only [fnO];refine gQ ?_;refine cQ (z7j (2,3,k32 1) 1000 1000000 conf16 ⟨trivial,trivial,⟨show (k32 1).length≤1125899906842624 by rw [q1G];decide,fun _ _=>trivial⟩⟩ (by decide)) ?_
 refine q0a (mk2.arg ?_) ?_
 · with_reducible refine sxE ?_;trivial
 refine gQ ?_;refine q0a (q7a 0) ?_;refine gy2 hl81 f81 ?_;refine ⟨z2G _,by omega,?_⟩
 rw [j3X,show el0.set 80 (el0.getD 80 Ty.u8.dflt+1)=elX from rfl]
 refine q9w 7 (args':=[.agg [rI 2,rI 3,.isl .u8 (k32 1)],.agg [rI 2,.isl .u8 elX],rI 1000,rI 0,rI 0,rI 0,rI 10]) ?_ rfl (q2N 3 (k32 1) 2 elX 1000 0 0 0 10 (by rw [q1G];decide) (by rw [z1G];decide)) ?_
 · unfold borrowC;simp (maxSteps:=3000000) only [z1G,go_sem,↓zA,↓reduceIte,↓reduceDIte] <;>try simp only [zB]
   all_goals (first|rfl|decide|skip)
 rw [ck7];refine gQ ?_;refine q0e (q2N 3 (k32 1) 2 (el0.take 80) 1000 0 0 0 4 (by rw [q1G];decide) (by rw [Aj,hl81];decide)) ?_
 rw [ck8];refine gQ ?_;refine cR (z7M 1 4) ?_;refine q0e (q2N 4 (k32 1) 2 el0 1000 0 0 0 9 (by rw [q1G];decide) (by rw [hl81];decide)) ?_
 rw [ck6];refine gQ ?_;trivial
theorem q1r:PC Tryz.prog 9 [] (rB true):=by
 refine q0p rfl rfl ?_;refine j5k fix9 ?_
 letI:Ghost:=noGhost
 refine uQ 600 _ ?_;generalize hR:xreg Tryz.prog 9=R;with_reducible refine sxE ?_
 subst hR;intro id k hns hrel;refine z2L (G:=[]) mixed (m:=5) (by kernel_rfl) ?_
 refine j2v (i:=0) (io:=⟨some 16,.call (.func 22) [.const (.int .u8 1),.const (.int .i64 3)],none⟩) (by kernel_rfl) (by kernel_rfl) (fun H'=>rfl) (by kernel_rfl) (s:=.agg [rI 2,rI 3,.isl .u8 (k32 1)]) (fun H' K hk=>((z7M 1 3).2 H' K hk).g) ?_
 refine q9D (i:=1) (j:=2) (io:=⟨some 17,.mks .u8 1 (.const (.int .i64 16)) (.const (.int .i64 16)),none⟩) (jo:=⟨some 1,.new 24 [.int .i64 0,.int .i64 0,.slice none 0 0],none⟩) (by kernel_rfl) (by kernel_rfl) (by kernel_rfl) ?_ ?_
 · refine ⟨by decide,q1S,?_⟩
   refine q4h (l:=[(false,⟨some 1,.new 24 [.int .i64 0,.int .i64 0,.slice none 0 0],none⟩),(false,⟨none,.st 3 (.tmp 1) (.tmp 16),none⟩),(true,⟨some 2,.mov (.tmp 17),none⟩)]) (by kernel_rfl) hrel ?_
   clear hrel hns;refine uQ 4 _ ?_;with_reducible refine sxE ?_
   refine q7o rfl (σ:=fun h=>if h=0 then 1 else if h=1 then 0 else h) ⟨?_,?_,rfl,rfl,rfl,rfl,Ai _,fun _ h0=>absurd h0 (A5 0)⟩ q4p
   · unfold knT;repeat (first|exact trivial|exact rfl|refine And.intro ?_ ?_)
   repeat (first|exact trivial|exact rfl|refine And.intro ?_ ?_)
 refine ⟨trivial,q1S,?_⟩;refine q9D (i:=1) (j:=3) (io:=⟨some 17,.mks .u8 1 (.const (.int .i64 16)) (.const (.int .i64 16)),none⟩) (jo:=⟨none,.st 3 (.tmp 1) (.tmp 16),none⟩) (by kernel_rfl) (by kernel_rfl) (by kernel_rfl) ?_ ?_
 · refine ⟨by decide,q1S,?_⟩
   refine q4h (l:=[(false,⟨none,.st 3 (.tmp 1) (.tmp 16),none⟩),(true,⟨some 2,.mov (.tmp 17),none⟩)]) (by kernel_rfl) hrel ?_
   clear hrel hns;refine uQ 3 _ ?_;with_reducible refine sxE ?_
   exact q4p
 refine ⟨q1S,?_⟩;refine q4h (l:=[(false,⟨some 17,.mks .u8 1 (.const (.int .i64 16)) (.const (.int .i64 16)),none⟩),(true,⟨some 2,.mov (.tmp 17),none⟩)]) (by kernel_rfl) hrel ?_
 clear hrel hns;refine uQ 3 _ ?_;with_reducible refine sxE ?_
 exact q4p
theorem j3x(k:Key)(u:Nat)(conf plain:List UInt8)(hc:conf.length=16):(seS k u conf plain).length≤48+plain.length:=by
 unfold seS;rw [Ad,z7D _ _ _ _ hc,z8x];split<;>omega
theorem j4x(k:Key)(c:List UInt8)(hc:c.length≤1000):(keyS (k.1,k.2.1,c)).length≤2000:=by
 have:=z8Y k.1 k.2.1 c;omega
theorem j3y(tag:Int)(c:List UInt8)(hc:c.length≤1048576):PC Tryz.prog 90 [rI tag,.isl .u8 c] (.isl .u8 (tlv (byteOf tag) c)):=by
 have q1:IntKind.i64.wrap ((c.length:Int).tdiv 256)=((c.length / 256:Nat):Int):=by rw [show (256:Int)=((256:Nat):Int) from rfl,j4P,wrapi (by omega)]
 have q2:IntKind.i64.wrap ((c.length:Int).tdiv 65536)=((c.length / 65536:Nat):Int):=by rw [show (65536:Int)=((65536:Nat):Int) from rfl,j4P,wrapi (by omega)]
 have m1:IntKind.i64.wrap ((c.length:Int).tmod 256)=(c.length:Int).tmod 256:=by rw [As (by omega),wrapi (by omega)]
 have m2:IntKind.i64.wrap (((c.length / 256:Nat):Int).tmod 256)=((c.length / 256:Nat):Int).tmod 256:=by rw [As (by omega),wrapi (by omega)]
 have f1:(c.length:Int).fdiv 256=((c.length / 256:Nat):Int):=j3F _ 256;have f2:(c.length:Int).fdiv 65536=((c.length / 65536:Nat):Int):=j3F _ 65536;have hd:tlv (byteOf tag) c=byteOf tag :: (lenS c.length++c):=rfl;generalize tlv (byteOf tag) c=r at*;refine q0i rfl rfl ?_;refine ry5 fi90 q1 q2 m1 m2 m2 ?_;refine ⟨q1s _,fun h1=> ?_,fun h1=>⟨fun h2=> ?_,fun h2=>⟨fun h3=> ?_,fun h3=>⟨fun h4=> ?_,fun h4=>absurd h4 (by omega)⟩⟩⟩⟩
 · refine ⟨q1s _,⟨by omega,by omega⟩,⟨by omega,by omega⟩,?_⟩
   rw [Ab (by simp;omega),hd,show lenS c.length= [byteOf c.length] by unfold lenS;rw [if_pos (by omega)]]
   rfl
 · refine ⟨⟨rfl,q1s _⟩,⟨by omega,by omega⟩,⟨by omega,by omega⟩,?_⟩
   rw [Ab (by simp;omega),hd,show lenS c.length= [129,byteOf c.length] by unfold lenS;rw [if_neg (by omega),if_pos (by omega)]]
   rfl
 · refine ⟨by decide,by decide,⟨rfl,q1s _,q1s _⟩,⟨by omega,by omega⟩,⟨by omega,by omega⟩,?_⟩
   rw [Ab (by simp;omega),hd,j2o,show lenS c.length= [130,byteOf ((c.length:Int).fdiv 256),byteOf c.length] by unfold lenS;rw [if_neg (by omega),if_neg (by omega),if_pos (by omega)],f1]
   rfl
 refine ⟨by decide,by decide,by decide,by decide,⟨rfl,q1s _,q1s _,q1s _⟩,⟨by omega,by omega⟩,⟨by omega,by omega⟩,?_⟩
 rw [Ab (by simp;omega),hd,j2o,j2o,show lenS c.length= [131,byteOf ((c.length:Int).fdiv 65536),byteOf ((c.length:Int).fdiv 256),byteOf c.length] by unfold lenS;rw [if_neg (by omega),if_neg (by omega),if_neg (by omega)],f1,f2]
 rfl
theorem j4u(t:UInt8)(tag:Int)(ht:byteOf tag=t)(c:List UInt8)(hc:c.length≤1048576):PC Tryz.prog 90 [rI tag,.isl .u8 c] (.isl .u8 (elemS t [c])):=by
 have h:=j3y tag c hc;rw [ht] at h;have e:elemS t [c]=tlv t c:=by unfold elemS;simp only [AR,BA,Ah];rw [if_pos (by omega)]
 rwa [←e] at h
end Go.Proofs.YtikapabgggphpaaGreatDoor
