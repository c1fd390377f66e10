/- Contracts: reading that leaves by a panic. -/
import Derived.Test.YtmapiojgmbgbgaaGreatDoorV22
import Derived.Deep.Draws
import Derived.Sort.Grow
set_option linter.all false
namespace Go.Proofs.YtmapiojgmbgbgaaGreatDoor
open Go Go.Sx Go.Proofs
set_option maxRecDepth 100000
set_option maxHeartbeats 4000000
@[go_sem] abbrev wrongV:SV:=.iface 142 (.agg [rI 6])
theorem q3D:PC Tryz.prog 103 [.raw (.bool true)] (.tup []):=by
 refine q0w rfl rfl ?_;refine rQ fi103 ?_;trivial
theorem z6k:PE Tryz.prog 103 [.raw (.bool false)] [] (.pan wrongV) []:=by
 refine q0b (by simp) ?_
 refine rQ fi103 ?_;trivial
theorem q0n{AQ:Ex→List SV→List SObj→Prop}{x:Bool}{d:Option Tmp}{m:IM}(h1:x=true→SoundI Tryz.prog AQ {m with tmps:=putT m.tmps d (.tup [])})(h2:x=false→AQ (.pan wrongV) m.tmps m.heap):
 CallI Tryz.prog AQ 103 [.raw (.bool x)] d m:=by
 cases x with
 |true=>exact q0a q3D (h1 rfl)
 |false=>
  refine q0K [] z6k rfl (by decide) trivial rfl rfl ?_
  have:mgA (sig [] m.heap.length) [] [] m.heap=m.heap:=by simp [mgA]
  rw [this];exact h2 rfl
theorem q8x(v:Value):PC Tryz.prog 130 [.raw v,rI 0] (.raw v):=by
 refine q0w rfl rfl ?_;refine rQ fi130 ?_;refine cQ q3D ?_;trivial
theorem q4z(v:Value)(e:Nat)(he:e≠0):PE Tryz.prog 130 [.raw v,rI e] [] (.pan wrongV) []:=by
 refine q0b (by simp) ?_
 refine rQ fi130 ?_;refine q0n (fun h=>absurd h (by simp;omega)) fun _=> ?_
 with_reducible refine sxE ?_;trivial
theorem q9a(b:List UInt8)(n:Nat):PE Tryz.prog 162 [.ptr 0 0,rI 0] [rdr b n] (.ret (.ptr 0 0)) [rdr b n]:=by
 refine q0b (by simp) ?_
 refine rQ fi162 ?_;refine cQ q3D ?_;trivial
theorem z1w(e:Nat)(he:e≠0):PE Tryz.prog 162 [.raw (.pointer none),rI e] [] (.pan wrongV) []:=by
 refine q0b (by simp) ?_
 refine rQ fi162 ?_;refine q0n (fun h=>absurd h (by simp;omega)) fun _=> ?_
 with_reducible refine sxE ?_;trivial
theorem z5r(b:List UInt8)(n:Nat)(hn:n=b.length):PE Tryz.prog 102 [.agg [.ptr 0 0]] [rdr b n] (.ret (.tup [])) [rdr b n]:=by
 have he:=j3U b n (by omega)
 rw [if_neg (by omega)] at he
 refine q0b (by simp) ?_
 refine rQ fi102 ?_;refine eQ [0] (he) ?_;refine cQ q3D ?_;trivial
theorem z6N(b:List UInt8)(n:Nat)(hn:n<b.length):PE Tryz.prog 102 [.agg [.ptr 0 0]] [rdr b n] (.pan wrongV) [.dead]:=by
 have he:=j3U b n (by omega)
 rw [if_pos hn] at he;refine q0b (by simp) ?_
 refine rQ fi102 ?_;refine eQ [0] (he) ?_;refine q0n (fun h=>absurd h (by simp)) fun _=> ?_
 with_reducible refine sxE ?_;trivial
def Eff(P:Program){α:Type}(f:FuncId)(args:List SV)(b:List UInt8)(n:Nat)(E:List SObj)(res:α→SV)(upd:α→List SObj):Except Nat (α×Nat)→Prop
 |.ok (v,k)=>PE P f args (rdr b n :: E) (.ret (res v)) (rdr b (n+k) :: upd v)
 |.error _=>PE P f args (rdr b n :: E) (.pan wrongV) (.dead :: E.map fun _=>.dead)
theorem q1R{P:Program}{α:Type}{f:FuncId}{args:List SV}{b:List UInt8}{n:Nat}{E:List SObj}{res:α→SV}{upd:α→List SObj}{x:Except Nat (α×Nat)}{v:α}{k:Nat}(h:Eff P f args b n E res upd x)(hx:x= .ok (v,k)):PE P f args (rdr b n :: E) (.ret (res v)) (rdr b (n+k) :: upd v):=by rw [hx] at h;exact h
theorem q2j{P:Program}{α:Type}{f:FuncId}{args:List SV}{b:List UInt8}{n:Nat}{E:List SObj}{res:α→SV}{upd:α→List SObj}{x:Except Nat (α×Nat)}{e:Nat}(h:Eff P f args b n E res upd x)(hx:x= .error e):PE P f args (rdr b n :: E) (.pan wrongV) (.dead :: E.map fun _=>.dead):=by rw [hx] at h;exact h
theorem sequence1{α:Type}(g:Nat)(b:List UInt8)(n:Nat)(hn:n≤b.length)(hb:b.length≤1099511627776)(T:TypeId)(cs:List SV)(hc:Cln cs)(p:PR α)(hp:FitsP p)(upd:α→List SV)(hu:∀v,Cln (upd v))
 (hg:Eff Tryz.prog g (.agg [.ptr 0 0] :: [.ptr 1 0]) (takeC (b.drop n)) 0 [.cells T cs] (fun _=>.tup []) (fun v=>[.cells T (upd v)]) (p (takeC (b.drop n)))):
 Eff Tryz.prog 105 [.agg [.ptr 0 0],.fn g [] [.ptr 1 0]] b n [.cells T cs] (fun _=>.tup []) (fun v=>[.cells T (upd v)]) (inP 48 p (b.drop n)):=by
 have w1:=z0X hc;have w2:=And.intro w1 (z2k hu);rcases q3G (tag:=48) (p:=p) (r:=b.drop n) with ⟨h1,e⟩ | ⟨h1,e,h2,e'⟩ | ⟨h1,v,m,h2,h3,e⟩ | ⟨h1,v,m,h2,h3,e⟩
 · rw [e];have hs:=q9F b n hn hb h1;generalize takeE 48 (b.drop n)=ee at*;refine q0b (by simp) ?_
   refine rQ fi105 ?_;refine effC mixed [0] (hs) w1 ?_;refine effD [] (z1w ee h1) w1 ?_;trivial
 · rw [e'];have hs:=q5m b n hn hb h1;have hg':=q2j hg h2;generalize takeC (b.drop n)=c at*;refine q0b (by simp) ?_
   refine rQ fi105 ?_;refine effC mixed [0] (hs) w1 ?_;refine effC mixed [3] (q9a c 0) w1 ?_;refine effD [3,1] (hg') w1 ?_;trivial
 · rw [e];have hs:=q5m b n hn hb h1;have hg':=q1R hg h2;generalize takeC (b.drop n)=c at*;rw [Ac] at hg';refine q0b (by simp) ?_
   refine rQ fi105 ?_;refine effC mixed [0] (hs) w1 ?_;refine effC mixed [3] (q9a c 0) w1 ?_;refine effC mixed [3,1] (hg') w2 ?_;refine effD [3] (z6N c m h3) w2 ?_;trivial
 rw [e];have hs:=q5m b n hn hb h1;have hg':=q1R hg h2;have hm:=hp _ _ _ h2;generalize takeC (b.drop n)=c at*;rw [Ac] at hg';refine q0b (by simp) ?_
 refine rQ fi105 ?_;refine effC mixed [0] (hs) w1 ?_;refine effC mixed [3] (q9a c 0) w1 ?_;refine effC mixed [3,1] (hg') w2 ?_;refine effC mixed [3] (z5r c m (by omega)) w2 ?_;trivial
theorem z6X(g:Nat)(i:Nat)(hi:i≤30)(b:List UInt8)(n:Nat)(hn:n≤b.length)(T:TypeId)(cs:List SV)(hc:Cln cs)(h:nextB i (b.drop n)=false):
 PE Tryz.prog 134 [.agg [.ptr 0 0],rI i,.fn g [] [.ptr 1 0]] (rdr b n :: [.cells T cs]) (.ret (rB false)) (rdr b n :: [.cells T cs]):=by
 have w1:=z0X hc;have hs:=q5M i hi b n hn h;refine q0b (by simp) ?_
 refine rQ fi134 ?_;refine effC mixed [0] (hs) w1 ?_;refine q0n (fun _=> ?_) fun h=>absurd h (by decide)
 refine gy1 w1 ?_;trivial
theorem z0y{α:Type}(g:Nat)(i:Nat)(hi:i≤30)(b:List UInt8)(n:Nat)(hn:n≤b.length)(hb:b.length≤1099511627776)(T:TypeId)(cs:List SV)(hc:Cln cs)(p:PR α)(hp:FitsP p)(upd:α→List SV)(hu:∀v,Cln (upd v))
 (hg:Eff Tryz.prog g (.agg [.ptr 0 0] :: [.ptr 1 0]) (takeC (b.drop n)) 0 [.cells T cs] (fun _=>.tup []) (fun v=>[.cells T (upd v)]) (p (takeC (b.drop n))))(h:nextB i (b.drop n)=true):
 Eff Tryz.prog 134 [.agg [.ptr 0 0],rI i,.fn g [] [.ptr 1 0]] b n [.cells T cs] (fun _=>rB true) (fun v=>[.cells T (upd v)]) (inP (tagB i) p (b.drop n)):=by
 have w1:=z0X hc;have w2:=And.intro w1 (z2k hu);rcases q3G (tag:=tagB i) (p:=p) (r:=b.drop n) with ⟨h1,e⟩ | ⟨h1,e,h2,e'⟩ | ⟨h1,v,m,h2,h3,e⟩ | ⟨h1,v,m,h2,h3,e⟩
 · rw [e];have hs:=q7d i hi b n hn hb h h1;generalize takeE (tagB i) (b.drop n)=ee at*;refine q0b (by simp) ?_
   refine rQ fi134 ?_;refine effC mixed [0] (hs) w1 ?_;refine q0n (fun h=>absurd h (by simp;omega)) fun _=> ?_
   with_reducible refine sxE ?_;trivial
 · rw [e'];have hs:=q4l i hi b n hn hb h h1;have hg':=q2j hg h2;generalize takeC (b.drop n)=c at*;refine q0b (by simp) ?_
   refine rQ fi134 ?_;refine effC mixed [0] (hs) w1 ?_;refine q0n (fun _=> ?_) fun h=>absurd h (by decide)
   refine gQ ?_;refine effD [3,1] (hg') w1 ?_;trivial
 · rw [e];have hs:=q4l i hi b n hn hb h h1;have hg':=q1R hg h2;generalize takeC (b.drop n)=c at*;rw [Ac] at hg';refine q0b (by simp) ?_
   refine rQ fi134 ?_;refine effC mixed [0] (hs) w1 ?_;refine q0n (fun _=> ?_) fun h=>absurd h (by decide)
   refine gQ ?_;refine effC mixed [3,1] (hg') w2 ?_;refine effD [3] (z6N c m h3) w2 ?_;trivial
 rw [e];have hs:=q4l i hi b n hn hb h h1;have hg':=q1R hg h2;have hm:=hp _ _ _ h2;generalize takeC (b.drop n)=c at*;rw [Ac] at hg';refine q0b (by simp) ?_
 refine rQ fi134 ?_;refine effC mixed [0] (hs) w1 ?_;refine q0n (fun _=> ?_) fun h=>absurd h (by decide)
 refine gQ ?_;refine effC mixed [3,1] (hg') w2 ?_;refine effC mixed [3] (z5r c m (by omega)) w2 ?_;trivial
theorem need1{α:Type}(g:Nat)(i:Nat)(hi:i≤30)(b:List UInt8)(n:Nat)(hn:n≤b.length)(hb:b.length≤1099511627776)(T:TypeId)(cs:List SV)(hc:Cln cs)(p:PR α)(hp:FitsP p)(upd:α→List SV)(hu:∀v,Cln (upd v))
 (hg:Eff Tryz.prog g (.agg [.ptr 0 0] :: [.ptr 1 0]) (takeC (b.drop n)) 0 [.cells T cs] (fun _=>.tup []) (fun v=>[.cells T (upd v)]) (p (takeC (b.drop n)))):
 Eff Tryz.prog 107 [.agg [.ptr 0 0],rI i,.fn g [] [.ptr 1 0]] b n [.cells T cs] (fun _=>.tup []) (fun v=>[.cells T (upd v)]) (needP i p (b.drop n)):=by
 have w1:=z0X hc;have w2:=And.intro w1 (z2k hu);cases h:nextB i (b.drop n) with
 |false=>
  have hm:=z6X g i hi b n hn T cs hc h;have:∃e,needP i p (b.drop n)= .error e:=⟨_,by unfold needP;rw [h];rfl⟩
  obtain ⟨e,he⟩:=this;rw [he];refine q0b (by simp) ?_
  refine rQ fi107 ?_;refine effC mixed [0,1] (hm) w1 ?_;refine q0n (fun h=>absurd h (by decide)) fun _=> ?_
  with_reducible refine sxE ?_;trivial
 |true=>
  have hm:=z0y g i hi b n hn hb T cs hc p hp upd hu hg h;have he:needP i p (b.drop n)=inP (tagB i) p (b.drop n):=by unfold needP;rw [h];rfl
  rw [he];cases hx:inP (tagB i) p (b.drop n) with
  |error e=>
   have hm':=q2j hm hx;refine q0b (by simp) ?_
   refine rQ fi107 ?_;refine effD [0,1] (hm') w1 ?_;trivial
  |ok x=>
   obtain ⟨v,k⟩:=x;have hm':=q1R hm hx;refine q0b (by simp) ?_
   refine rQ fi107 ?_;refine effC mixed [0,1] (hm') w2 ?_;refine q0n (fun _=> ?_) fun h=>absurd h (by decide)
   refine gy1 w2 ?_;trivial
def effO{α:Type}(res:α→SV):Except Nat (α×Nat)→Out
 |.ok (v,_)=>.ret (res v)
 |.error _=>.pan wrongV
theorem z3E{P:Program}{α:Type}{f:FuncId}{args:List SV}{b:List UInt8}{n:Nat}{E:List SObj}{res:α→SV}{upd:α→List SObj}{x:Except Nat (α×Nat)}(hl:∀v,E.length≤(upd v).length)(h:VC P f args (rdr b n :: E) (SealO (effO res x) (effH b n E upd x))):Eff P f args b n E res upd x:=by
 cases x with
 |error e=>exact q0b (by simp [effH]) h
 |ok y=>obtain ⟨v,k⟩:=y;exact q0b (by simp [effH];exact hl v) h
attribute [go_sem] effO effH
theorem z0n(v:Prin):PC Tryz.prog 127 [.agg (PrinT.cells v),rI 0] (.agg (PrinT.cells v)):=by
 refine q0u rfl rfl ?_;refine rQ fi127 ?_;refine q0n (fun _=> ?_) fun h=>absurd h (by decide)
 refine gQ ?_;trivial
theorem q5W(e:Nat)(he:e≠0):PE Tryz.prog 127 [zPrin,rI e] [] (.pan wrongV) []:=by
 refine q0b (by simp) ?_
 refine rQ fi127 ?_;refine q0n (fun h=>absurd h (by simp;omega)) fun _=> ?_
 with_reducible refine sxE ?_;trivial
theorem z2y{α:Type}(g:Nat)(i:Nat)(hi:i≤30)(b:List UInt8)(n:Nat)(hn:n≤b.length)(hb:b.length≤1099511627776)(T:TypeId)(cs:List SV)(hc:Cln cs)(p:PR α)(hp:FitsP p)(upd:α→List SV)(hu:∀v,Cln (upd v))(d:α)(hd:SV.leAL cs (upd d))
 (hg:Eff Tryz.prog g [.agg [.ptr 0 0],.ptr 1 0] (takeC (b.drop n)) 0 [.cells T cs] (fun _=>.tup []) (fun v=>[.cells T (upd v)]) (p (takeC (b.drop n)))):
 Eff Tryz.prog 134 [.agg [.ptr 0 0],rI i,.fn g [] [.ptr 1 0]] b n [.cells T cs] (fun _=>rB (nextB i (b.drop n))) (fun v=>[.cells T (upd v)]) (dfltP d i p (b.drop n)):=by
 cases h:nextB i (b.drop n) with
 |false=>
  rw [z3V h];have w1:=z0X hc;have hs:=q5M i hi b n hn h;refine q0b (by simp) ?_
  refine rQ fi134 ?_;refine effC mixed [0] (hs) w1 ?_;refine q0n (fun _=> ?_) fun h=>absurd h (by decide)
  refine gy2 w1 hd ?_;rfl
 |true=>
  rw [z2J h];exact z0y g i hi b n hn hb T cs hc p hp upd hu hg h
@[go_sem] abbrev paO(cs:List SV):SObj:=.cells 28 cs
@[go_sem] abbrev pa0:List SV:=[.raw (.slice none 0 0),rS ⟨#[]⟩,rI 0,rI 0,.raw (.slice none 0 0),.raw (.slice none 0 0)]
@[go_sem] abbrev pa1(c:Prin)(a u:Int):List SV:=[.isl .str c.1,rS c.2,rI a,rI u,.raw (.slice none 0 0),.raw (.slice none 0 0)]
@[go_sem] abbrev pa4(c:Prin)(a u:Int)(g:List Int):List SV:=[.isl .str c.1,rS c.2,rI a,rI u,.isl I64 g,.raw (.slice none 0 0)]
theorem z6Y:Cln pa0:=q0o (q0o (q0o (q0o (q0o (q0o q3a)))))
theorem q4A(c:Prin)(a u:Int):Cln (pa1 c a u):=q2k (q0o (q0o (q0o (q0o (q0o q3a)))))
theorem q9B(c:Prin)(a u:Int)(g:List Int):Cln (pa4 c a u g):=q2k (q0o (q0o (q0o (q2k (q0o q3a)))))

theorem j3e(b:List UInt8)(n:Nat)(hn:n≤b.length)(hb:b.length≤1099511627776):
 Eff Tryz.prog 126 [.agg [.ptr 0 0],.ptr 1 0] b n [paO pa0] (fun _=>.tup []) (fun v:Prin=>[paO (pa1 v 0 0)]) (nameP (b.drop n)):=by
 have hr0:=z5T b n hn hb;cases hx:nameP (b.drop n) with
 |error e=>
  have hr:=q6U hr0 hx;refine q0b (by simp) ?_
  refine rQ fi126 ?_;refine eQ [0] (hr) ?_;refine effP [] (q5W e (z3k _ _ hx)) ?_;trivial
 |ok x=>
  obtain ⟨v,k⟩:=x;have hr:=q7g hr0 hx;refine q0b (by simp) ?_
  refine rQ fi126 ?_;refine eQ [0] (hr) ?_;refine cQ (z0n _) ?_;trivial

theorem j4b(b:List UInt8)(n:Nat)(hn:n≤b.length)(hb:b.length≤1099511627776)(c:Prin):
 Eff Tryz.prog 129 [.agg [.ptr 0 0],.ptr 1 0] b n [paO (pa1 c 0 0)] (fun _=>.tup []) (fun v:Nat=>[paO (pa1 c (v:Nat) 0)]) (timeP (b.drop n)):=by
 cases hx:timeP (b.drop n) with
 |error e=>
  have hr:=z9l b n hn hb hx;refine q0b (by simp) ?_
  refine rQ fi129 ?_;refine eQ [0] (hr) ?_;refine effP [] (q4z _ e (q6b hx)) ?_;trivial
 |ok x=>
  obtain ⟨v,k⟩:=x;have hr:=z8g b n hn hb hx;refine q0b (by simp) ?_
  refine rQ fi129 ?_;refine eQ [0] (hr) ?_;refine cQ (q8x _) ?_;trivial

theorem j2U(b:List UInt8)(n:Nat)(hn:n≤b.length)(hb:b.length≤1099511627776)(c:Prin)(a:Int):
 Eff Tryz.prog 132 [.agg [.ptr 0 0],.ptr 1 0] b n [paO (pa1 c a 0)] (fun _=>.tup []) (fun v:Int=>[paO (pa1 c a v)]) (intP (b.drop n)):=by
 cases hx:intP (b.drop n) with
 |error e=>
  have hr:=z1o b n hn hb hx;refine q0b (by simp) ?_
  refine rQ fi132 ?_;refine eQ [0] (hr) ?_;refine effP [] (q4z _ e (q6b hx)) ?_;trivial
 |ok x=>
  obtain ⟨v,k⟩:=x;have hr:=z1S b n hn hb hx;refine q0b (by simp) ?_
  refine rQ fi132 ?_;refine eQ [0] (hr) ?_;refine cQ (q8x _) ?_;trivial

theorem j3S(b:List UInt8)(n:Nat)(hn:n≤b.length)(hb:b.length≤1099511627776)(c:Prin)(a u:Int):
 Eff Tryz.prog 136 [.agg [.ptr 0 0],.ptr 1 0] b n [paO (pa1 c a u)] (fun _=>.tup []) (fun l=>[paO (pa4 c a u l)]) (listP intP 64 (b.drop n)):=by
 refine z3E (fun _=>Ae _) ?_;generalize hx:listP intP 64 (b.drop n)=X;refine rQ fi136 ?_;refine q4c 1 4 (I64) rfl rfl rfl ?_;with_reducible refine sxE ?_
 refine q0y (ι:=Nat×List (I64).den×List SObj) (fun s=>[]) (fun s=>[rdr b s.1,paO [.isl .str c.1,rS c.2,rI a,rI u,.bld (s.2.2.length+3) I64 s.2.1.length,.raw (.slice none 0 0)],.cells 96 [.ptr 0 0]]++s.2.2++ [.row (I64) s.2.1]) (fun s=>130-s.2.1.length) (fun s=>s.2.1.length≤64∧n≤s.1∧s.1≤b.length∧X=tailP s.2.1 (s.1-n) (listP intP (64-s.2.1.length) (b.drop s.1))) (n,[],[]) ⟨Al _,Ae _,hn,?_⟩ rfl ?_ ?_
 · rw [CG,q9l];exact hx.symm
 · with_reducible refine sxE ?_;trivial
 rintro ⟨k,xs,G⟩ ⟨h1,h2,h3,h4⟩;dsimp only at h1 h2 h3 h4;have hleft:=q2G b k h3;refine aQ ?_;refine q0K [0] hleft rfl (by decide) ⟨rfl,rfl,trivial⟩ rfl rfl ?_
 simp only [afterO,Out.ren,SV.ren,mgA,sig,SObj.ren,SV.renL,Ay,As,List.append_assoc,Bj,Bk,List.set,List.map,Ai];refine aQ ?_;refine ⟨fun hp0=>q0n (fun hmo=> ?_) (fun hmo=> ?_),fun hp0=> ?_⟩
 · have hlt:xs.length<64:=by have:=of_decide_eq_true hmo;omega
   have hkl:k<b.length:=by omega
   refine uQ 1 _ ?_;with_reducible refine sxaE ?_
   refine q1T [1,2] mixed ?_;refine aQ ?_;cases hpk:intP (b.drop k) with
   |error e=>
    have hg':=z1o b k h3 hb hpk;have hX:=h4.trans (q6E hkl (by omega) hpk)
    rw [hX];refine q0G [0] hg' rfl (by decide) ⟨rfl,rfl,trivial⟩ rfl rfl ?_ ?_
    · simp (maxSteps:=3000000) only [mgA,sig,q1o,q1w,List.append_assoc,getA,getA0,setA,setA0,Af,Nat.add_assoc,go_sem,↓zA,↓reduceIte,↓reduceDIte] <;>try simp only [zB]
    refine rnE ?_;refine aQ ?_;refine q0G [] (q4z _ e (q6b hpk)) rfl (by decide) trivial rfl rfl ?_ ?_
    · simp (maxSteps:=3000000) only [mgA,sig,q1o,q1w,List.append_assoc,getA,getA0,setA,setA0,Af,Nat.add_assoc,go_sem,↓zA,↓reduceIte,↓reduceDIte] <;>try simp only [zB]
    simp only [afterR,Out.ren,SV.ren,mgA,sig,SObj.ren,SV.renL,Ay,As,List.append_assoc,Bj,Bk,List.set,List.map,Ai,effO,effH];with_reducible refine sxaE ?_;trivial
   |ok y=>
    obtain ⟨v,m⟩:=y;have hg':=z1S b k h3 hb hpk;have hfit:=q3t _ _ _ hpk;rw [Ak] at hfit;have hX:=h4.trans (q5t hkl (by omega) hpk)
    refine q0G [0] hg' rfl (by decide) ⟨rfl,rfl,trivial⟩ rfl rfl ?_ ?_
    · simp (maxSteps:=3000000) only [mgA,sig,q1o,q1w,List.append_assoc,getA,getA0,setA,setA0,Af,Nat.add_assoc,go_sem,↓zA,↓reduceIte,↓reduceDIte] <;>try simp only [zB]
    refine rnE ?_;refine aQ ?_;refine q0k (q8x _) ?_;refine aQ ?_;refine ⟨⟨by omega,by omega⟩,(k+m,xs++ [v],G++ [.dead,.row I64 [v]]),⟨by simp;omega,by dsimp only;omega,by dsimp only;omega,?_⟩,by simp;omega,?_,?_⟩
    · dsimp only;rw [hX,Af,Bo,Nat.sub_sub];congr 1;omega
    · simp
    with_reducible refine sxaE ?_;trivial
 · have hlt:¬xs.length<64:=by have:=of_decide_eq_false hmo;omega
   have hm0:64-xs.length=0:=by omega
   rw [hm0] at h4;have hX:=h4.trans (q8g (by omega))
   rw [hX];simp (maxSteps:=3000000) only [effO,effH,List.append_assoc,getA,getA0,setA,setA0,Af,Nat.add_assoc,go_sem,↓zA,↓reduceIte,↓reduceDIte] <;>try simp only [zB]
 have hX:=h4.trans (q7w (by omega))
 rw [hX];simp (maxSteps:=3000000) only [effO,effH,List.append_assoc,getA,getA0,setA,setA0,Af,Nat.add_assoc,go_sem,↓zA,↓reduceIte,↓reduceDIte] <;>try simp only [zB]
 rw [if_neg (by omega)]
 with_reducible refine sxE ?_
 refine ⟨congrArg (Value.int .i64) (by omega),⟨Ae _,by omega⟩,Ah (Ae _)⟩

theorem j3G(b:List UInt8)(n:Nat)(hn:n≤b.length)(hb:b.length≤1099511627776)(c:Prin)(a u:Int)(g:List Int):
 Eff Tryz.prog 139 [.agg [.ptr 0 0],.ptr 1 0] b n [paO (pa4 c a u g)] (fun _=>.tup []) (fun l=>[paO (PacT.cells ((c,a,u,g,l):Pac))]) (listP nameP 16 (b.drop n)):=by
 refine z3E (fun _=>Ae _) ?_;generalize hx:listP nameP 16 (b.drop n)=X;refine rQ fi139 ?_;refine q4c 1 5 (PrinT) rfl rfl rfl ?_;with_reducible refine sxE ?_
 refine q0y (ι:=Nat×List (PrinT).den×List SObj) (fun s=>[]) (fun s=>[rdr b s.1,paO [.isl .str c.1,rS c.2,rI a,rI u,.isl I64 g,.bld (s.2.2.length+3) PrinT s.2.1.length],.cells 96 [.ptr 0 0]]++s.2.2++ [.row (PrinT) s.2.1]) (fun s=>34-s.2.1.length) (fun s=>s.2.1.length≤16∧n≤s.1∧s.1≤b.length∧X=tailP s.2.1 (s.1-n) (listP nameP (16-s.2.1.length) (b.drop s.1))) (n,[],[]) ⟨Al _,Ae _,hn,?_⟩ rfl ?_ ?_
 · rw [CG,q9l];exact hx.symm
 · with_reducible refine sxE ?_;trivial
 rintro ⟨k,xs,G⟩ ⟨h1,h2,h3,h4⟩;dsimp only at h1 h2 h3 h4;have hleft:=q2G b k h3;refine aQ ?_;refine q0K [0] hleft rfl (by decide) ⟨rfl,rfl,trivial⟩ rfl rfl ?_
 simp only [afterO,Out.ren,SV.ren,mgA,sig,SObj.ren,SV.renL,Ay,As,List.append_assoc,Bj,Bk,List.set,List.map,Ai];refine aQ ?_;refine ⟨fun hp0=>q0n (fun hmo=> ?_) (fun hmo=> ?_),fun hp0=> ?_⟩
 · have hlt:xs.length<16:=by have:=of_decide_eq_true hmo;omega
   have hkl:k<b.length:=by omega
   refine uQ 1 _ ?_;with_reducible refine sxaE ?_
   refine q1T [1,2] mixed ?_;refine aQ ?_;cases hpk:nameP (b.drop k) with
   |error e=>
    have hg':=q6U (z5T b k h3 hb) hpk;have hX:=h4.trans (q6E hkl (by omega) hpk)
    rw [hX];refine q0G [0] hg' rfl (by decide) ⟨rfl,rfl,trivial⟩ rfl rfl ?_ ?_
    · simp (maxSteps:=3000000) only [mgA,sig,q1o,q1w,List.append_assoc,getA,getA0,setA,setA0,Af,Nat.add_assoc,go_sem,↓zA,↓reduceIte,↓reduceDIte] <;>try simp only [zB]
    refine rnE ?_;refine aQ ?_;refine q0G [] (q5W e (z3k _ _ hpk)) rfl (by decide) trivial rfl rfl ?_ ?_
    · simp (maxSteps:=3000000) only [mgA,sig,q1o,q1w,List.append_assoc,getA,getA0,setA,setA0,Af,Nat.add_assoc,go_sem,↓zA,↓reduceIte,↓reduceDIte] <;>try simp only [zB]
    simp only [afterR,Out.ren,SV.ren,mgA,sig,SObj.ren,SV.renL,Ay,As,List.append_assoc,Bj,Bk,List.set,List.map,Ai,effO,effH];with_reducible refine sxaE ?_;trivial
   |ok y=>
    obtain ⟨v,m⟩:=y;have hg':=q7g (z5T b k h3 hb) hpk;have hfit:=q5n _ _ _ hpk;rw [Ak] at hfit;have hX:=h4.trans (q5t hkl (by omega) hpk)
    refine q0G [0] hg' rfl (by decide) ⟨rfl,rfl,trivial⟩ rfl rfl ?_ ?_
    · simp (maxSteps:=3000000) only [mgA,sig,q1o,q1w,List.append_assoc,getA,getA0,setA,setA0,Af,Nat.add_assoc,go_sem,↓zA,↓reduceIte,↓reduceDIte] <;>try simp only [zB]
    refine rnE ?_;refine aQ ?_;refine q0k (z0n _) ?_;refine aQ ?_;refine ⟨(q8W _ _ _ (by rw [List.length_drop];omega) hpk).2,⟨by omega,by omega⟩,(k+m,xs++ [v],G++ [.dead,.row PrinT [v]]),⟨by simp;omega,by dsimp only;omega,by dsimp only;omega,?_⟩,by simp;omega,?_,?_⟩
    · dsimp only;rw [hX,Af,Bo,Nat.sub_sub];congr 1;omega
    · simp
    with_reducible refine sxaE ?_;trivial
 · have hlt:¬xs.length<16:=by have:=of_decide_eq_false hmo;omega
   have hm0:16-xs.length=0:=by omega
   rw [hm0] at h4;have hX:=h4.trans (q8g (by omega))
   rw [hX];simp (maxSteps:=3000000) only [effO,effH,List.append_assoc,getA,getA0,setA,setA0,Af,Nat.add_assoc,go_sem,↓zA,↓reduceIte,↓reduceDIte] <;>try simp only [zB]
 have hX:=h4.trans (q7w (by omega))
 rw [hX];simp (maxSteps:=3000000) only [effO,effH,List.append_assoc,getA,getA0,setA,setA0,Af,Nat.add_assoc,go_sem,↓zA,↓reduceIte,↓reduceDIte] <;>try simp only [zB]
 rw [if_neg (by omega)]
 with_reducible refine sxE ?_
 refine ⟨congrArg (Value.int .i64) (by omega),⟨Ae _,by omega⟩,Ah (Ae _)⟩

theorem j4t(b:List UInt8)(n:Nat)(hn:n≤b.length)(hb:b.length≤1099511627776)(c:Prin)(a u:Int):
 Eff Tryz.prog 135 [.agg [.ptr 0 0],.ptr 1 0] b n [paO (pa1 c a u)] (fun _=>.tup []) (fun l:List Int=>[paO (pa4 c a u l)]) (inP 48 (listP intP 64) (b.drop n)):=by
 have h1:=j3S (takeC (b.drop n)) 0 (Al _) (q1r hb) c a u;rw [Au] at h1;have hs:=sequence1 136 b n hn hb 28 _ (q4A c a u) (listP intP 64) (q5k q3t 64) (fun l:List Int=>pa4 c a u l) (fun l=>q9B c a u l) h1;cases hx:inP 48 (listP intP 64) (b.drop n) with
 |error e=>
  have hm':=q2j hs hx;refine q0b (by simp) ?_
  refine rQ fi135 ?_;refine effP [0,1] (hm') ?_;trivial
 |ok x=>
  obtain ⟨v,k⟩:=x;have hm':=q1R hs hx;refine q0b (by simp) ?_
  refine rQ fi135 ?_;refine eQ [0,1] (hm') ?_;trivial

theorem j4o(b:List UInt8)(n:Nat)(hn:n≤b.length)(hb:b.length≤1099511627776)(c:Prin)(a u:Int)(g:List Int):
 Eff Tryz.prog 138 [.agg [.ptr 0 0],.ptr 1 0] b n [paO (pa4 c a u g)] (fun _=>.tup []) (fun l:List Prin=>[paO (PacT.cells ((c,a,u,g,l):Pac))]) (inP 48 (listP nameP 16) (b.drop n)):=by
 have h1:=j3G (takeC (b.drop n)) 0 (Al _) (q1r hb) c a u g;rw [Au] at h1;have hs:=sequence1 139 b n hn hb 28 _ (q9B c a u g) (listP nameP 16) (q5k q5n 16) (fun l:List Prin=>PacT.cells ((c,a,u,g,l):Pac)) (fun l=>z0l PacT (c,a,u,g,l)) h1;cases hx:inP 48 (listP nameP 16) (b.drop n) with
 |error e=>
  have hm':=q2j hs hx;refine q0b (by simp) ?_
  refine rQ fi138 ?_;refine effP [0,1] (hm') ?_;trivial
 |ok x=>
  obtain ⟨v,k⟩:=x;have hm':=q1R hs hx;refine q0b (by simp) ?_
  refine rQ fi138 ?_;refine eQ [0,1] (hm') ?_;trivial

theorem j4i(c:Prin)(a u:Int):SV.leAL (pa1 c a u) (pa4 c a u []):=by
 simp [q1z,q6u,q8Q,z1R,q8C]
theorem j3D(c:Prin)(a u:Int)(g:List Int):SV.leAL (pa4 c a u g) (PacT.cells ((c,a,u,g,[]):Pac)):=by
 simp [Ty.cells,q1z,q6u,q8Q,z1R,q8C]
def grpsP:PR (List Int):=inP 48 (listP intP 64)
def pacIn:PR Pac:=bindP (needP 0 nameP) fun c=>bindP (needP 1 timeP) fun a=>bindP (needP 2 intP) fun u=>bindP (dfltP [] 3 grpsP) fun g=>bindP (dfltP [] 4 nmsP) fun l=>retP ((c,((a:Nat):Int),u,g,l):Pac)
def pacP:PR Pac:=inP 48 pacIn
theorem z4b:FitsP pacIn:=q1H q0F fun _=>q1H q0F fun _=>q1H q0F fun _=>q1H q3Q fun _=>q1H q3Q fun _=>z0Q
theorem j4p(b:List UInt8)(n:Nat)(hn:n≤b.length)(hb:b.length≤1099511627776):
 Eff Tryz.prog 125 [.agg [.ptr 0 0],.ptr 1 0] b n [paO pa0] (fun _=>.tup []) (fun p=>[paO (PacT.cells p)]) (pacIn (b.drop n)):=by
 refine z3E (fun _=>Ae _) ?_;obtain ⟨X,hX0⟩:∃X,X=pacIn (b.drop n):=⟨_,rfl⟩;rw [←hX0];have hX:=hX0.trans z5M;clear hX0;unfold pacIn at hX;refine rQ fi125 ?_;have c1:=need1 126 0 (by omega) b (n) hn hb 28 _ z6Y nameP q5n _ (fun p=>q4A p 0 0) (by have h:=j3e (takeC (b.drop (n))) 0 (Al _) (q1r hb);rwa [Au] at h)
 rcases h1:needP 0 nameP (b.drop (n)) with e| ⟨v1,k1⟩
 · have c1':=q2j c1 h1;obtain rfl:=q3J hX h1;refine effP [0,1] (c1') ?_;trivial
 replace hX:=q3B hX h1;have c1':=q1R c1 h1;have f1:=q2B q0F hn h1;refine eQ [0,1] (c1') ?_;have c2:=need1 129 1 (by omega) b (n+k1) f1 hb 28 _ (q4A v1 0 0) timeP q3t _ (fun p=>q4A v1 (p:Nat) 0) (by have h:=j4b (takeC (b.drop (n+k1))) 0 (Al _) (q1r hb) v1;rwa [Au] at h)
 rcases h2:needP 1 timeP (b.drop (n+k1)) with e| ⟨v2,k2⟩
 · have c2':=q2j c2 h2;obtain rfl:=q3J hX h2;refine effP [0,1] (c2') ?_;trivial
 replace hX:=q3B hX h2;have c2':=q1R c2 h2;have f2:=q2B q0F f1 h2;refine eQ [0,1] (c2') ?_;have c3:=need1 132 2 (by omega) b (n+k1+k2) f2 hb 28 _ (q4A v1 (v2:Nat) 0) intP q3t _ (fun p=>q4A v1 (v2:Nat) p) (by have h:=j2U (takeC (b.drop (n+k1+k2))) 0 (Al _) (q1r hb) v1 (v2:Nat);rwa [Au] at h)
 rcases h3:needP 2 intP (b.drop (n+k1+k2)) with e| ⟨v3,k3⟩
 · have c3':=q2j c3 h3;obtain rfl:=q3J hX h3;refine effP [0,1] (c3') ?_;trivial
 replace hX:=q3B hX h3;have c3':=q1R c3 h3;have f3:=q2B q0F f2 h3;refine eQ [0,1] (c3') ?_;have c4:=z2y 135 3 (by omega) b (n+k1+k2+k3) f3 hb 28 _ (q4A v1 (v2:Nat) v3) grpsP q2o _ (fun p=>q9B v1 (v2:Nat) v3 p) [] (j4i _ _ _) (by have h:=j4t (takeC (b.drop (n+k1+k2+k3))) 0 (Al _) (q1r hb) v1 (v2:Nat) v3;rwa [Au] at h)
 rcases h4:dfltP [] 3 grpsP (b.drop (n+k1+k2+k3)) with e| ⟨v4,k4⟩
 · have c4':=q2j c4 h4;obtain rfl:=q3J hX h4;refine effP [0,1] (c4') ?_;trivial
 replace hX:=q3B hX h4;have c4':=q1R c4 h4;have f4:=q2B q3Q f3 h4;refine eQ [0,1] (c4') ?_;have c5:=z2y 138 4 (by omega) b (n+k1+k2+k3+k4) f4 hb 28 _ (q9B v1 (v2:Nat) v3 v4) nmsP q2o _ (fun p=>z0l PacT (v1,((v2:Nat):Int),v3,v4,p)) [] (j3D _ _ _ _) (by have h:=j4o (takeC (b.drop (n+k1+k2+k3+k4))) 0 (Al _) (q1r hb) v1 (v2:Nat) v3 v4;rwa [Au] at h)
 rcases h5:dfltP [] 4 nmsP (b.drop (n+k1+k2+k3+k4)) with e| ⟨v5,k5⟩
 · have c5':=q2j c5 h5;obtain rfl:=q3J hX h5;refine effP [0,1] (c5') ?_;trivial
 replace hX:=q3B hX h5;have c5':=q1R c5 h5;have f5:=q2B q3Q f4 h5;refine eQ [0,1] (c5') ?_;subst hX;simp only [shiftP,retP];with_reducible refine sxE ?_
 exact congrArg (Value.int .i64) (by omega)
theorem j3N(b:List UInt8)(n:Nat)(hn:n≤b.length)(hb:b.length≤1099511627776):
 Eff Tryz.prog 71 [.agg [.ptr 0 0]] b n [] (fun p=>.agg (PacT.cells p)) (fun _=>[]) (pacP (b.drop n)):=by
 have h1:=j4p (takeC (b.drop n)) 0 (Al _) (q1r hb);rw [Au] at h1;have hs:=sequence1 125 b n hn hb 28 _ z6Y pacIn z4b (fun p=>PacT.cells p) (fun p=>z0l PacT p) h1;change Eff _ _ _ _ _ _ _ _ (pacP (b.drop n)) at hs;cases hx:pacP (b.drop n) with
 |error e=>
  have hm':=q2j hs hx;refine q0b (by simp) ?_
  refine rQ fi71 ?_;refine effP [0,2] (hm') ?_;trivial
 |ok x=>
  obtain ⟨v,q⟩:=x;have hm':=q1R hs hx;refine q0b (by simp) ?_
  refine rQ fi71 ?_;refine eQ [0,2] (hm') ?_;trivial
theorem j1h:OkP pacP PacT.ok:=
 q8s (q1P (q3e q8W) fun _ h0=>q1P (Q1:=fun _=>True) q4Z fun _ _=>q1P (Q1:=fun _=>True) q4Z fun _ _=>q1P (z3P (Q:=(Ty.slice I64).ok) z2K (j2T (t:=I64) 64 (by omega) q4Z)) fun _ h3=>q1P (z3P (Q:=(Ty.slice PrinT).ok) z2K (j2T (t:=PrinT) 16 (by omega) q8W)) fun _ h4=>z1Y ⟨h0,trivial,trivial,h3,h4⟩)
abbrev SgT:Ty:=.prod PacT (.prod KeyT KeyT)
abbrev Sgd:=SgT.den
theorem j3Q(p:Int):PC Tryz.prog 167 [rI p] (rI (keyLen p)):=by
 refine q0w rfl rfl ?_;refine rQ fi167 ?_;refine q0a z6O ?_;by_cases h1:p=1
 · subst h1;refine uQ 600 _ ?_;simp (maxSteps:=3000000) only [kind1,keyLen,go_sem,↓zA,↓reduceIte,↓reduceDIte] <;>try simp only [zB]
 by_cases h2:p=2
 · subst h2;refine uQ 600 _ ?_;simp (maxSteps:=3000000) only [kind2,keyLen,go_sem,↓zA,↓reduceIte,↓reduceDIte] <;>try simp only [zB]
 refine uQ 600 _ ?_;simp (maxSteps:=3000000) only [h1,h2,keyLen,go_sem,↓zA,↓reduceIte,↓reduceDIte] <;>try simp only [zB]
theorem j0e(s:Key):PC Tryz.prog 113 [.agg (KeyT.cells s)] (rB (vKey s)):=by
 obtain ⟨p,v,b⟩:=s;have hk:=j3Q p;unfold vKey;generalize keyLen p=n at*;refine q0w rfl rfl ?_;refine rQ fi113 ?_;refine cQ hk ?_
 grind
def vSgn(x:Sgd):Bool:=vPac x.1&& (vKey x.2.1&& vKey x.2.2)
theorem j3x(x:Sgd)(ho:SgT.ok x):PC Tryz.prog 53 [.agg (SgT.cells x)] (rB (vSgn x)):=by
 have h1:=q3X x.1 ho.1;have h2:=j0e x.2.1;have h3:=j0e x.2.2;unfold vSgn;generalize vPac x.1=v1 at*;generalize vKey x.2.1=v2 at*;generalize vKey x.2.2=v3 at*;obtain ⟨⟨c,a,u,g,w⟩,⟨p1,p2,p3⟩,⟨q1,q2,q3⟩⟩:=x;refine q0w rfl rfl ?_;refine rQ fi53 ?_;refine cQ (h1) ?_;refine ⟨fun h1=> ?_,fun h1=> ?_⟩
 rotate_left
 · first| (simp only [AE,h1,AR,BE];done) |simp [AE,h1]
 refine cQ (h2) ?_;refine ⟨fun h2=> ?_,fun h2=> ?_⟩
 rotate_left
 · first| (simp only [AE,h2,AR,BE];done) |simp [AE,h2]
 refine cQ h3 ?_;simp [*]
def sgnS(x:Sgd):List UInt8:=elemS 48 [wrapS 160 0 (pacS x.1),wrapS 160 1 (keyS x.2.1),wrapS 160 2 (keyS x.2.2)]
theorem j0j(x:Sgd)(ho:SgT.ok x)(hv:vSgn x=true):PC Tryz.prog 46 [.agg (SgT.cells x)] (.isl .u8 (sgnS x)):=by
 have h1:=q3Y x.1 ho.1 (by simp only [vSgn,Aj] at hv;exact hv.1)
 clear hv;obtain ⟨p,k1,k2⟩:=x;have hE:sgnS (p,k1,k2)=elemS 48 [wrapS 160 0 (pacS p),wrapS 160 1 (keyS k1),wrapS 160 2 (keyS k2)]:=rfl;rw [hE];dsimp only at h1;generalize pacS p=w at*;have h2:=z0K k1;have h3:=z0K k2;generalize keyS k1=y1 at*;generalize keyS k2=y2 at*;obtain ⟨c,a,u,g,l⟩:=p;obtain ⟨p1,p2,p3⟩:=k1;obtain ⟨q1,q2,q3⟩:=k2;refine q0u rfl rfl ?_;refine rQ fi46 ?_;refine cR h1 ?_;refine cR (q1K _ _) ?_;refine cR h2 ?_;refine cR (q1K _ _) ?_;refine cR h3 ?_;refine cR (q1K _ _) ?_;refine q0L 1 (by decide) ?_
 with_reducible refine sxE ?_
 refine cR (q1Y _ (by simp)) ?_;trivial
theorem q9W(v:Key):PC Tryz.prog 110 [.agg (KeyT.cells v),rI 0] (.agg (KeyT.cells v)):=by
 refine q0u rfl rfl ?_;refine rQ fi110 ?_;refine q0n (fun _=> ?_) fun h=>absurd h (by decide)
 refine gQ ?_;trivial
theorem q5R(e:Nat)(he:e≠0):PE Tryz.prog 110 [zKey,rI e] [] (.pan wrongV) []:=by
 refine q0b (by simp) ?_
 refine rQ fi110 ?_;refine q0n (fun h=>absurd h (by simp;omega)) fun _=> ?_
 with_reducible refine sxE ?_;trivial
@[go_sem] abbrev sdOb(cs:List SV):SObj:=.cells 84 cs
@[go_sem] abbrev sd0v:List SV:=[.raw (.slice none 0 0),rS ⟨#[]⟩,rI 0,rI 0,.raw (.slice none 0 0),.raw (.slice none 0 0),rI 0,rI 0,.raw (.slice none 0 0),rI 0,rI 0,.raw (.slice none 0 0)]
@[go_sem] abbrev sd1v(p:Pac):List SV:=[.isl .str p.1.1,rS p.1.2,rI p.2.1,rI p.2.2.1,.isl I64 p.2.2.2.1,.isl PrinT p.2.2.2.2,rI 0,rI 0,.raw (.slice none 0 0),rI 0,rI 0,.raw (.slice none 0 0)]
@[go_sem] abbrev sd2v(p:Pac)(k:Key):List SV:=[.isl .str p.1.1,rS p.1.2,rI p.2.1,rI p.2.2.1,.isl I64 p.2.2.2.1,.isl PrinT p.2.2.2.2,rI k.1,rI k.2.1,.isl .u8 k.2.2,rI 0,rI 0,.raw (.slice none 0 0)]
theorem z5i:Cln sd0v:=q0o (q0o (q0o (q0o (q0o (q0o (q0o (q0o (q0o (q0o (q0o (q0o q3a)))))))))))
theorem z6F(p:Pac):Cln (sd1v p):=q2k (q0o (q0o (q0o (q2k (q2k (q0o (q0o (q0o (q0o (q0o (q0o q3a)))))))))))
theorem z6j(p:Pac)(k:Key):Cln (sd2v p k):=q2k (q0o (q0o (q0o (q2k (q2k (q0o (q0o (q2k (q0o (q0o (q0o q3a)))))))))))
theorem j4g(b:List UInt8)(n:Nat)(hn:n≤b.length)(hb:b.length≤1099511627776):
 Eff Tryz.prog 108 [.agg [.ptr 0 0],.ptr 1 0] b n [sdOb sd0v] (fun _=>.tup []) (fun p:Pac=>[sdOb (sd1v p)]) (pacP (b.drop n)):=by
 have hr:=j3N b n hn hb;cases hx:pacP (b.drop n) with
 |error e=>
  have hr':=q2j hr hx;refine q0b (by simp) ?_
  refine rQ fi108 ?_;refine effP [0] (hr') ?_;trivial
 |ok x=>
  obtain ⟨v,k⟩:=x;have hr':=q1R hr hx;refine q0b (by simp) ?_
  refine rQ fi108 ?_;refine eQ [0] (hr') ?_;trivial
theorem j3R(b:List UInt8)(n:Nat)(hn:n≤b.length)(hb:b.length≤1099511627776)(p:Pac):
 Eff Tryz.prog 109 [.agg [.ptr 0 0],.ptr 1 0] b n [sdOb (sd1v p)] (fun _=>.tup []) (fun k:Key=>[sdOb (sd2v p k)]) (keyP (b.drop n)):=by
 have hr:=z3O b n hn hb;cases hx:keyP (b.drop n) with
 |error e=>
  have hr':=q6U hr hx;refine q0b (by simp) ?_
  refine rQ fi109 ?_;refine eQ [0] (hr') ?_;refine effP [] (q5R e (z7y _ _ hx)) ?_;trivial
 |ok x=>
  obtain ⟨v,k⟩:=x;have hr':=q7g hr hx;refine q0b (by simp) ?_
  refine rQ fi109 ?_;refine eQ [0] (hr') ?_;refine cQ (q9W _) ?_;trivial
theorem j3t(b:List UInt8)(n:Nat)(hn:n≤b.length)(hb:b.length≤1099511627776)(p:Pac)(a:Key):
 Eff Tryz.prog 112 [.agg [.ptr 0 0],.ptr 1 0] b n [sdOb (sd2v p a)] (fun _=>.tup []) (fun k:Key=>[sdOb (SgT.cells ((p,a,k):Sgd))]) (keyP (b.drop n)):=by
 have hr:=z3O b n hn hb;cases hx:keyP (b.drop n) with
 |error e=>
  have hr':=q6U hr hx;refine q0b (by simp) ?_
  refine rQ fi112 ?_;refine eQ [0] (hr') ?_;refine effP [] (q5R e (z7y _ _ hx)) ?_;trivial
 |ok x=>
  obtain ⟨v,k⟩:=x;have hr':=q7g hr hx;refine q0b (by simp) ?_
  refine rQ fi112 ?_;refine eQ [0] (hr') ?_;refine cQ (q9W _) ?_;trivial
def sgIn:PR Sgd:=bindP (needP 0 pacP) fun p=>bindP (needP 1 keyP) fun a=>bindP (needP 2 keyP) fun b=>retP ((p,a,b):Sgd)
def sgP:PR Sgd:=inP 48 sgIn
theorem z6a:FitsP sgIn:=q1H q0F fun _=>q1H q0F fun _=>q1H q0F fun _=>z0Q
theorem j4C(b:List UInt8)(n:Nat)(hn:n≤b.length)(hb:b.length≤1099511627776):
 Eff Tryz.prog 106 [.agg [.ptr 0 0],.ptr 1 0] b n [sdOb sd0v] (fun _=>.tup []) (fun p=>[sdOb (SgT.cells p)]) (sgIn (b.drop n)):=by
 refine z3E (fun _=>Ae _) ?_;obtain ⟨X,hX0⟩:∃X,X=sgIn (b.drop n):=⟨_,rfl⟩;rw [←hX0];have hX:=hX0.trans z5M;clear hX0;unfold sgIn at hX;refine rQ fi106 ?_;have c1:=need1 108 0 (by omega) b (n) hn hb 84 _ z5i pacP q2o _ (fun p=>z6F p) (by have h:=j4g (takeC (b.drop (n))) 0 (Al _) (q1r hb);rwa [Au] at h)
 rcases h1:needP 0 pacP (b.drop (n)) with e| ⟨v1,k1⟩
 · have c1':=q2j c1 h1;obtain rfl:=q3J hX h1;refine effP [0,1] (c1') ?_;trivial
 replace hX:=q3B hX h1;have c1':=q1R c1 h1;have f1:=q2B q0F hn h1;refine eQ [0,1] (c1') ?_;have c2:=need1 109 1 (by omega) b (n+k1) f1 hb 84 _ (z6F v1) keyP q2o _ (fun k=>z6j v1 k) (by have h:=j3R (takeC (b.drop (n+k1))) 0 (Al _) (q1r hb) v1;rwa [Au] at h)
 rcases h2:needP 1 keyP (b.drop (n+k1)) with e| ⟨v2,k2⟩
 · have c2':=q2j c2 h2;obtain rfl:=q3J hX h2;refine effP [0,1] (c2') ?_;trivial
 replace hX:=q3B hX h2;have c2':=q1R c2 h2;have f2:=q2B q0F f1 h2;refine eQ [0,1] (c2') ?_;have c3:=need1 112 2 (by omega) b (n+k1+k2) f2 hb 84 _ (z6j v1 v2) keyP q2o _ (fun k=>z0l SgT (v1,v2,k)) (by have h:=j3t (takeC (b.drop (n+k1+k2))) 0 (Al _) (q1r hb) v1 v2;rwa [Au] at h)
 rcases h3:needP 2 keyP (b.drop (n+k1+k2)) with e| ⟨v3,k3⟩
 · have c3':=q2j c3 h3;obtain rfl:=q3J hX h3;refine effP [0,1] (c3') ?_;trivial
 replace hX:=q3B hX h3;have c3':=q1R c3 h3;have f3:=q2B q0F f2 h3;refine eQ [0,1] (c3') ?_;subst hX;simp only [shiftP,retP];with_reducible refine sxE ?_
 exact congrArg (Value.int .i64) (by omega)
theorem j3B(b:List UInt8)(n:Nat)(hn:n≤b.length)(hb:b.length≤1099511627776):
 Eff Tryz.prog 52 [.agg [.ptr 0 0]] b n [] (fun p=>.agg (SgT.cells p)) (fun _=>[]) (sgP (b.drop n)):=by
 have h1:=j4C (takeC (b.drop n)) 0 (Al _) (q1r hb);rw [Au] at h1;have hs:=sequence1 106 b n hn hb 84 _ z5i sgIn z6a (fun p=>SgT.cells p) (fun p=>z0l SgT p) h1;change Eff _ _ _ _ _ _ _ _ (sgP (b.drop n)) at hs;cases hx:sgP (b.drop n) with
 |error e=>
  have hm':=q2j hs hx;refine q0b (by simp) ?_
  refine rQ fi52 ?_;refine effP [0,2] (hm') ?_;trivial
 |ok x=>
  obtain ⟨v,q⟩:=x;have hm':=q1R hs hx;refine q0b (by simp) ?_
  refine rQ fi52 ?_;refine eQ [0,2] (hm') ?_;trivial
theorem j0i:OkP sgP SgT.ok:=q8s (q1P (q3e j1h) fun _ h0=>q1P (q3e z6v) fun _ h1=>q1P (q3e z6v) fun _ h2=>z1Y ⟨h0,h1,h2⟩)
theorem q6l(o:SObj)(T:TypeId)(x:Value)(R:List SObj)(K:List SObj→Prop)(h:∀G,K (o :: .cells T [rI 6] :: (R++G))):DCall Tryz.prog 100 [.ptr 1 0] (some wrongV) (o :: .cells T [.raw x] :: R) K:=by
 refine recE mixed fi100 ?_;exact h _
theorem z8H(o o':SObj)(R:List SObj)(K:List SObj→Prop)(h:∀G,K (o :: o' :: (R++G))):DCall Tryz.prog 100 [.ptr 1 0] none (o :: o' :: R) K:=by
 refine recE mixed fi100 ?_;exact h _
def decSg(b:List UInt8):Option (SgT).den:=match allP sgP b with
 |.ok f=>if vSgn f=true∧sgnS f=b then some f else none
 |.error _=>none
theorem z3Z(b:List UInt8)(hb:b.length≤1099511627776):PC Tryz.prog 51 [.isl .u8 b,.fn 52 [] [],.fn 53 [] [],.fn 46 [] []] (.tup [.agg ((SgT).cells ((decSg b).getD (SgT).dflt)),rI (if (decSg b).isSome then 0 else 6)]):=by
 have hnew:=j4n b (by omega)
 have hread:=j3B b 0 (Al _) hb;have hok:∀e m,sgP b= .ok (e,m)→(SgT).ok e:=fun e m h=>j0i b e m hb h;rw [Au] at hread;refine q0u rfl rfl ?_;refine defE mixed fi51 ?_;refine gQ ?_;refine eQ [] (hnew) ?_;cases hx:sgP b with
 |error e=>
  have hd:decSg b=none:=by unfold decSg allP;rw [hx]
  have hr:=q2j hread hx;rw [hd];refine effP [2] (hr) ?_;refine ⟨by simp,q6l _ _ _ _ _ fun G=> ?_⟩
  with_reducible refine sxE ?_
  exact ⟨⟨rfl,rfl,rfl,rfl,rfl,rfl,rfl,rfl,rfl,rfl,rfl,rfl⟩,rfl⟩
 |ok x=>
  obtain ⟨e,m⟩:=x;have hr:=q1R hread hx;have heo:=hok e m hx;rw [Ac] at hr;refine eQ [2] (hr) ?_;have hfit:m≤b.length:=q2o _ _ _ hx;by_cases hm:m<b.length
  · have hd:decSg b=none:=by unfold decSg allP;rw [hx];simp [hm]
    rw [hd];refine effP [2] (z6N b m hm) ?_;refine ⟨by simp,q6l _ _ _ _ _ fun G=> ?_⟩
    with_reducible refine sxE ?_
    exact ⟨⟨rfl,rfl,rfl,rfl,rfl,rfl,rfl,rfl,rfl,rfl,rfl,rfl⟩,rfl⟩
  refine eQ [2] (z5r b m (by omega)) ?_
  refine q0a (j3x e heo) ?_;cases hv:vSgn e with
  |false=>
   have hd:decSg b=none:=by unfold decSg allP;rw [hx];simp [hm,hv]
   rw [hd];refine gQ ?_;refine q0n (fun h=>absurd h (by decide)) fun _=> ?_
   with_reducible refine sxE ?_
   refine ⟨by simp,q6l _ _ _ _ _ fun G=> ?_⟩
   with_reducible refine sxE ?_
   exact ⟨⟨rfl,rfl,rfl,rfl,rfl,rfl,rfl,rfl,rfl,rfl,rfl,rfl⟩,rfl⟩
  |true=>
   refine gQ ?_;refine cQ (j0j e heo hv) ?_;refine q0a (j2l _ _) ?_;by_cases he:sgnS e=b
   · have hd:decSg b=some e:=by unfold decSg allP;rw [hx];simp [hm,hv,he]
     rw [hd,decide_eq_true he];refine gQ ?_;refine cQ q3D ?_;refine z8H _ _ _ _ fun G=> ?_;with_reducible refine sxE ?_
     exact ⟨⟨rfl,rfl,rfl,rfl,rfl,rfl,rfl,rfl,rfl,rfl,rfl,rfl⟩,rfl⟩
   have hd:decSg b=none:=by unfold decSg allP;rw [hx];simp [hm,hv,he]
   rw [hd,decide_eq_false he];refine gQ ?_;refine q0n (fun h=>absurd h (by decide)) fun _=> ?_
   with_reducible refine sxE ?_
   refine ⟨by simp,q6l _ _ _ _ _ fun G=> ?_⟩
   with_reducible refine sxE ?_
   exact ⟨⟨rfl,rfl,rfl,rfl,rfl,rfl,rfl,rfl,rfl,rfl,rfl,rfl⟩,rfl⟩
abbrev inW(x:Int):Prop:=0≤x∧x<4294967296
def xorW(a b:Int):Int:=((a.toNat^^^ b.toNat:Nat):Int)
def andW(a b:Int):Int:=((a.toNat&&& b.toNat:Nat):Int)
def rotW(n:Nat)(x:Int):Int:=x / 2^ n+x*2^ (32-n)%4294967296
def chW(e f g:Int):Int:=xorW (andW e f) (andW (4294967295-e) g)
def majW(a b c:Int):Int:=xorW (xorW (andW a b) (andW a c)) (andW b c)
theorem q7p{a b:Int}(ha:inW a)(hb:inW b):inW (xorW a b):=by
 have:a.toNat^^^ b.toNat<2^ 32:=Nat.xor_lt_two_pow (by omega) (by omega)
 unfold xorW;omega
theorem q3N{a b:Int}(ha:inW a)(_:inW b):inW (andW a b):=by
 have:a.toNat&&& b.toNat≤a.toNat:=Nat.and_le_left;unfold andW;omega
theorem q3h{n:Nat}{x:Int}(h1:1≤n)(h2:n≤31)(hx:inW x):inW (rotW n x):=by
 obtain ⟨x,rfl⟩:∃m:Nat,x=m:=⟨x.toNat,by omega⟩
 unfold rotW;have hx':x<2^ n*2^ (32-n):=by rw [←CO,show n+ (32-n)=32 by omega];omega
 have e1:((x:Int) / 2^ n)=((x / 2^ n:Nat):Int):=by simp
 have e2:((x:Int)*2^ (32-n)%4294967296)=((x*2^ (32-n)%4294967296:Nat):Int):=by simp
 rw [e1,e2];have h3:x / 2^ n<2^ (32-n):=Nat.div_lt_of_lt_mul hx';have h4:x*2^ (32-n)%4294967296=(x%2^ n)*2^ (32-n):=by
  have:(4294967296:Nat)=2^ n*2^ (32-n):=by rw [←CO,show n+ (32-n)=32 by omega]
  rw [this,Nat.mul_mod_mul_right]
 have h5:x%2^ n<2^ n:=Nat.mod_lt _ (Nat.two_pow_pos n);have h6:(x%2^ n+1)*2^ (32-n)≤2^ n*2^ (32-n):=AX _ h5;rw [←CO,show n+ (32-n)=32 by omega,Nat.add_mul] at h6
 rw [h4];generalize x / 2^ n=u at*;generalize x%2^ n*2^ (32-n)=v at*;generalize 2^ (32-n)=w at*;clear e1 e2 h4 h5 hx';omega
theorem z8F{k:IntKind}{a b:Int}(hk:32≤k.bits)(ha:inW a)(hb:inW b):((BitVec.ofInt k.bits a^^^ BitVec.ofInt k.bits b).toNat:Int)=xorW a b:=by
 obtain ⟨a,rfl⟩:∃m:Nat,a=m:=⟨a.toNat,by omega⟩
 obtain ⟨b,rfl⟩:∃m:Nat,b=m:=⟨b.toNat,by omega⟩
 have hp:2^ 32≤2^ k.bits:=Br (by decide) hk
 unfold xorW;rw [BitVec.toNat_xor,AI,AI,AS,AS,AL (by omega),AL (by omega)]
 rfl
theorem z9P{k:IntKind}{a b:Int}(hk:32≤k.bits)(ha:inW a)(hb:inW b):((BitVec.ofInt k.bits a&&& BitVec.ofInt k.bits b).toNat:Int)=andW a b:=by
 obtain ⟨a,rfl⟩:∃m:Nat,a=m:=⟨a.toNat,by omega⟩
 obtain ⟨b,rfl⟩:∃m:Nat,b=m:=⟨b.toNat,by omega⟩
 have hp:2^ 32≤2^ k.bits:=Br (by decide) hk
 unfold andW;rw [BitVec.toNat_and,AI,AI,AS,AS,AL (by omega),AL (by omega)]
 rfl
theorem w32{a:Int}(ha:inW a):IntKind.u32.wrap a=a:=by
 have h:IntKind.u32.wrap a=a%4294967296:=rfl;rw [h];omega
theorem xor32{a b:Int}(ha:inW a)(hb:inW b):xorK .u32 a b=xorW a b:=by unfold xorK;rw [z8F (by decide) ha hb,w32 (q7p ha hb)]
theorem and32{a b:Int}(ha:inW a)(hb:inW b):andK .u32 a b=andW a b:=by unfold andK;rw [z9P (by decide) ha hb,w32 (q3N ha hb)]

abbrev W32:Int:=4294967296
def byI(b:List UInt8)(j:Nat):Int:=((b.getD j 0).toNat:Int)
theorem j3w(b:List UInt8)(j:Nat):0≤byI b j∧byI b j<256:=by
 have:=(b.getD j 0).toNat_lt;unfold byI;omega
def wdP(b:List UInt8)(t:Nat):Nat→Int
 |0=>0
 |i+1=>256*wdP b t i+byI b (4*t+i)
theorem j0u(b:List UInt8)(t:Nat):∀i,i≤4→inW (wdP b t i)∧wdP b t i<256^ i
 |0,_=>by simp [wdP,inW]
 |i+1,hi=>by
  have:=j0u b t i (by omega)
  have hb:=j3w b (4*t+i);have h3:i=0∨i=1∨i=2∨i=3:=by omega
  rcases h3 with rfl|rfl|rfl|rfl<;> (simp only [wdP] at*;simp at*;omega)
def sg0(x:Int):Int:=xorW (xorW (rotW 7 x) (rotW 18 x)) (x / 8)
def sg1(y:Int):Int:=xorW (xorW (rotW 17 y) (rotW 19 y)) (y / 1024)
def wS(b:List UInt8)(t:Nat):Int:=if h:t<16 then wdP b t 4 else (sg1 (wS b (t-2))+wS b (t-7)+sg0 (wS b (t-15))+wS b (t-16))%W32
termination_by t
theorem z4a{b:List UInt8}{t:Nat}(h:t<16):wS b t=wdP b t 4:=by rw [wS,dif_pos h]
theorem z4j{b:List UInt8}{t:Nat}(h:16≤t):wS b t=(sg1 (wS b (t-2))+wS b (t-7)+sg0 (wS b (t-15))+wS b (t-16))%W32:=by rw [wS,dif_neg (by omega)]
theorem q2P(b:List UInt8)(t:Nat):inW (wS b t):=by
 rcases AC t 16 with h|h
 · rw [z4a h];exact (j0u b t 4 (Ae _)).1
 rw [z4j h];unfold inW W32;omega
def wL(b:List UInt8)(t:Nat):List Int:=(List.range 64).map fun j=>if j<t then wS b j else 0
theorem q4h(b:List UInt8)(t:Nat):(wL b t).length=64:=by simp [wL]
theorem q1j(b:List UInt8){t j:Nat}(h:j<t)(h2:j<64):(wL b t).getD j 0=wS b j:=by
 simp [wL,Ad,h2,h]
theorem q4i(b:List UInt8){t:Nat}(h:t<64):(wL b t).set t (wS b t)=wL b (t+1):=by
 apply AP
 · simp [wL]
 intro j h1 h2;simp [wL] at h1 h2;rw [BI];simp only [wL,AZ,AU];split
 · subst_vars;rw [if_pos (by omega)]
 rename_i hne;by_cases hj:j<t
 · rw [if_pos hj,if_pos (by omega)]
 rw [if_neg hj,if_neg (by omega)]
theorem q6L(b:List UInt8):wL b 0=List.replicate 64 0:=by
 unfold wL;rw [List.eq_replicate_iff];refine ⟨by rw [A5,B2],fun x hx=> ?_⟩
 obtain ⟨j,_,rfl⟩:=BU.1 hx;exact if_neg (BG _)
def kS(t:Nat):Int:=dat_ref04_constants.getD t 0
def bs1(e:Int):Int:=xorW (xorW (rotW 6 e) (rotW 11 e)) (rotW 25 e)
def bs0(a:Int):Int:=xorW (xorW (rotW 2 a) (rotW 13 a)) (rotW 22 a)
def t1S(k w:Int)(v:List Int):Int:=v.getD 7 0+bs1 (v.getD 4 0)+chW (v.getD 4 0) (v.getD 5 0) (v.getD 6 0)+k+w
def t2S(v:List Int):Int:=bs0 (v.getD 0 0)+majW (v.getD 0 0) (v.getD 1 0) (v.getD 2 0)
def rnd(k w:Int)(v:List Int):List Int:=
 [(t1S k w v+t2S v)%W32,v.getD 0 0,v.getD 1 0,v.getD 2 0,(v.getD 3 0+t1S k w v)%W32,v.getD 4 0,v.getD 5 0,v.getD 6 0]
def rnds(b:List UInt8)(h:List Int):Nat→List Int
 |0=>h
 |t+1=>rnd (kS t) (wS b t) (rnds b h t)
abbrev inWs(v:List Int):Prop:=v.length=8∧∀x∈v,inW x
theorem q0h{v:List Int}(h:inWs v)(i:Nat)(hi:i<8):inW (v.getD i 0):=by
 rw [Ad,Ab (by omega)]
 exact h.2 _ (B7 _)
theorem j3L{k w:Int}{v:List Int}(h:inWs v):inWs (rnd k w v):=by
 refine ⟨rfl,fun x hx=> ?_⟩;have hm:∀y:Int,inW (y%W32):=fun y=>by unfold inW W32;omega
 simp only [rnd,Bz,List.not_mem_nil,or_false] at hx;rcases hx with rfl|rfl|rfl|rfl|rfl|rfl|rfl|rfl
 · exact hm _
 · exact q0h h 0 (by decide)
 · exact q0h h 1 (by decide)
 · exact q0h h 2 (by decide)
 · exact hm _
 · exact q0h h 4 (by decide)
 · exact q0h h 5 (by decide)
 exact q0h h 6 (by decide)
theorem q1v{b:List UInt8}{h:List Int}(hh:inWs h):∀t,inWs (rnds b h t)
 |0=>hh
 |t+1=>j3L (q1v hh t)
def blkS(b:List UInt8)(h:List Int):List Int:=(List.range 8).map fun i=>(h.getD i 0+ (rnds b h 64).getD i 0)%W32
def blkP(b:List UInt8)(h:List Int)(n:Nat):List Int:=(List.range 8).map fun i=>if i<n then (h.getD i 0+ (rnds b h 64).getD i 0)%W32 else h.getD i 0
end Go.Proofs.YtmapiojgmbgbgaaGreatDoor
namespace Go.Sx
open Go

variable {P:Program}
def PCE(P:Program)(f:FuncId)(args:List SV)(p:SV→Prop):Prop:=enters P f=true∧∀ (H:List SObj) (K:Out→List SObj→Prop),(∀s,p s→K (.ret s) H)→VCall P f args H K
theorem PCE.mono{f:FuncId}{args:List SV}{p q:SV→Prop}(h:PCE P f args p)(hq:∀s,p s→q s):PCE P f args q:=⟨h.1,fun H K hk=>h.2 H K fun s hs=>hk s (hq s hs)⟩
section
variable [Ghost] {AQ:Ex→List SV→List SObj→Prop}
end

section
variable {AQ:Ex→List SV→List SObj→Prop}
theorem q3v[Ghost]{b:Nat}{t:Ty}{x:t.den}{ag:Option Nat}{s:SV}{d:Option Tmp}{m:IM}(hm:(b,(⟨t,x⟩:Sigma Ty.den))∈datList)(hs:SV.ofT ag t x=some s)(ha:ag=none∨ag=some t.size)(hk:SoundI P AQ {m with tmps:=putT m.tmps d s}):ZldI P AQ ag b 0 d m:=by
 rintro E C _ ⟨⟨ht,_⟩,_⟩;exact ⟨s,.inr ⟨t,x,(ht.dat _ hm).2,hs,ha⟩,hk⟩
end
end Go.Sx
namespace Go.Proofs.YtmapiojgmbgbgaaGreatDoor
open Go Go.Sx Go.Proofs
set_option maxRecDepth 100000
set_option maxHeartbeats 40000000
theorem fdivW(x:Int)(n:Nat)(hn:0<n):x.fdiv (n:Int)=x / (n:Int):=A6 _ (by omega)
theorem q4T(b:List UInt8)(h:List Int)(n:Nat):(blkP b h n).length=8:=by simp [blkP]
theorem q4O(b:List UInt8)(h:List Int){i:Nat}(hi:i<8):(blkP b h i).getD i 0=h.getD i 0:=by
 simp [blkP,Ad,hi]
theorem q5a(b:List UInt8)(h:List Int){i:Nat}(hi:i<8):(blkP b h i).set i ((h.getD i 0+ (rnds b h 64).getD i 0)%W32)=blkP b h (i+1):=by
 apply AP
 · simp [blkP]
 intro j h1 h2;rw [BI];simp only [blkP,AZ,AU];split
 · subst_vars;rw [if_pos (by omega)]
 rename_i hne;by_cases hj:j<i
 · rw [if_pos hj,if_pos (by omega)]
 rw [if_neg hj,if_neg (by omega)]
theorem q3z(b:List UInt8){h:List Int}(hl:h.length=8):blkP b h 0=h:=by
 apply AP
 · simp [blkP,hl]
 intro j h1 h2;simp only [blkP,AZ,AU];rw [if_neg (BG _),Ad,Ab h2];rfl
theorem q4I(b:List UInt8)(h:List Int):blkP b h 8=blkS b h:=by
 apply AP
 · simp [blkP,blkS]
 intro j h1 h2;simp [blkP] at h1;simp only [blkP,blkS,AZ,AU];rw [if_pos h1]
theorem u8wrapR(x:Int):IntKind.u8.wrap x=x%256:=by simp [IntKind.wrap,IntKind.bits,IntKind.signed]
theorem q2D(x:Int):((UInt8.ofNat (IntKind.u8.wrap x).toNat).toNat:Int)=IntKind.u8.wrap x:=by
 have:=u8wrapR x;rw [BV];omega
def padZ(b:List UInt8)(k:Nat):List UInt8:=b++ [128]++List.replicate k 0
def padN(n:Nat):Nat:=(119-n%64)%64
theorem z8W(b:List UInt8)(k:Nat):(padZ b k).length=b.length+1+k:=by simp [padZ];omega
def lnB8(n:Nat)(j:Nat):List UInt8:=(List.range j).map fun i=>UInt8.ofNat (n / 2^ (8* (7-i))%256)
theorem z8B(n j:Nat):(lnB8 n j).length=j:=by simp [lnB8]
def padS(b:List UInt8):List UInt8:=padZ b (padN b.length)++lnB8 (8*b.length) 8
def hS0:List Int:=[0x6a09e667,0xbb67ae85,0x3c6ef372,0xa54ff53a,0x510e527f,0x9b05688c,0x1f83d9ab,0x5be0cd19]
def hashS(p:List UInt8):Nat→List Int
 |0=>hS0
 |k+1=>blkS ((p.take (64*k+64)).drop (64*k)) (hashS p k)
theorem z1t{b:List UInt8}{h:List Int}:inWs (blkS b h):=by
 refine ⟨by simp [blkS],fun x hx=> ?_⟩
 obtain ⟨i,_,rfl⟩:=BU.1 hx;unfold inW W32;omega
theorem q5X:inWs hS0:=by decide
def wordB(h:List Int)(i:Nat):UInt8:=UInt8.ofNat ((h.getD (i / 4) 0).toNat / 2^ (24-8* (i%4))%256)
def bytesP(h:List Int)(n:Nat):List UInt8:=(List.range 32).map fun i=>if i<n then wordB h i else 0
def bytesS(h:List Int):List UInt8:=(List.range 32).map (wordB h)
theorem q8f(h:List Int)(n:Nat):(bytesP h n).length=32:=by simp [bytesP]
theorem q1p(h:List Int):(bytesS h).length=32:=by simp [bytesS]
theorem q4a(h:List Int){i:Nat}(hi:i<32):(bytesP h i).set i (wordB h i)=bytesP h (i+1):=by
 apply AP
 · simp [bytesP]
 intro j h1 h2;rw [BI];simp only [bytesP,AZ,AU];split
 · subst_vars;rw [if_pos (by omega)]
 rename_i hne;by_cases hj:j<i
 · rw [if_pos hj,if_pos (by omega)]
 rw [if_neg hj,if_neg (by omega)]
theorem z4G(h:List Int):bytesP h 32=bytesS h:=by
 apply AP
 · simp [bytesP,bytesS]
 intro j h1 h2;simp [bytesP] at h1;simp only [bytesP,bytesS,AZ,AU];rw [if_pos h1]
def blksN(b:List UInt8):Nat:=(b.length+72) / 64
def shaS(b:List UInt8):List UInt8:=bytesS (hashS (padS b) (blksN b))
theorem xor8(a b:UInt8):xorK .u8 (a.toNat:Int) (b.toNat:Int)=((a^^^ b).toNat:Int):=by
 unfold xorK;have ha:=a.toNat_lt;have hb:=b.toNat_lt;have hx:a.toNat^^^ b.toNat<2^ 8:=Nat.xor_lt_two_pow ha hb;have e:(BitVec.ofInt IntKind.u8.bits (a.toNat:Int) ^^^ BitVec.ofInt IntKind.u8.bits (b.toNat:Int)).toNat=a.toNat^^^ b.toNat:=by
  rw [BitVec.toNat_xor,AI,AI,AS,AS];rw [show 2^ IntKind.u8.bits=256 from rfl,AL ha,AL hb]
 rw [e,u8wrapR,UInt8.toNat_xor];omega
def hkP(k:List UInt8)(c:UInt8)(n:Nat):List UInt8:=(List.range 64).map fun i=>if i<n then k.getD i 0^^^ c else 0
def hkC(k:List UInt8):List UInt8:=if 64<k.length then shaS k else k
def hkS(k:List UInt8)(c:UInt8):List UInt8:=hkP (hkC k) c 64
theorem q9G(k:List UInt8)(c:UInt8)(n:Nat):(hkP k c n).length=64:=by simp [hkP]
theorem j1O(k:List UInt8)(c:UInt8){i:Nat}(hi:i<64):(hkP k c i).set i (k.getD i 0^^^ c)=hkP k c (i+1):=by
 apply AP
 · simp [hkP]
 intro j h1 h2;rw [BI];simp only [hkP,AZ,AU];split
 · subst_vars;rw [if_pos (by omega)]
 rename_i hne;by_cases hj:j<i
 · rw [if_pos hj,if_pos (by omega)]
 rw [if_neg hj,if_neg (by omega)]
theorem z8I(k:List UInt8)(c:UInt8):hkP k c 0=List.replicate 64 0:=by
 unfold hkP;rw [List.eq_replicate_iff];refine ⟨by rw [A5,B2],fun x hx=> ?_⟩
 obtain ⟨j,_,rfl⟩:=BU.1 hx;exact if_neg (BG _)
end Go.Proofs.YtmapiojgmbgbgaaGreatDoor
