/- A part of the proof: a symbolic executor over abstract values, and its soundness. -/
import Derived.Test.YtmapiojgmbgbgaaGreatDoorV4
import Derived.MapKept
set_option linter.all false
namespace Go.Sx
open Go

variable [Ghost] {P:Program} {o:Oper} {ev:Operand→SV} {H:List SObj} {K:Out→List SObj→Prop} {t:Ty}

def bndV(ev:Operand→SV):Option Operand→Option (Option Int)
 |none=>some none
 |some x=>match ev x with
  |.raw (.int _ n)=>some (some n)
  |_=>none

theorem q5N{C:Cx}{e:Operand→Value}{x:Operand}{n:Int}(hd:(ev x).den C (e x))(h:bndV ev (some x)=some (some n))(y:Nat)(code:BoundsCode)(w:World)(h0:0≤n)(hy:n.toNat≤y):
 (Instr.sliceBound (e x) y code).run P w= .ok n.toNat w:=by
 simp only [bndV] at h;split at h
 · rename_i k m hx;simp at h;subst h;rw [hx,SV.den] at hd;have:m≤(y:Int):=by omega
   simp [Instr.sliceBound,hd,asIntOf,h0,this]
 cases h

def loOf:Option Int→Int
 |none=>0
 |some a=>a
def hiOf(n:Nat):Option Int→Int
 |none=>n
 |some a=>a

theorem q3k{C:Cx}{e:Operand→Value}{lo hi:Option Operand}{a b:Option Int}{isS:Bool}{len cap:Nat}(hlo:∀x∈lo,(ev x).den C (e x))(hhi:∀x∈hi,(ev x).den C (e x))(h1:bndV ev lo=some a)(h2:bndV ev hi=some b)(w:World)
 (g0:0≤loOf a)(g1:loOf a≤hiOf len b)(g2:hiOf len b≤cap):
 (Instr.sliceBounds isS len cap (lo.map e) (hi.map e) none).run P w= .ok ((loOf a).toNat,(hiOf len b).toNat,cap) w:=by
 have h0':0≤hiOf len b:=by omega
 unfold Instr.sliceBounds;cases hi with
 |none=>
  simp only [bndV,Option.some.injEq] at h2;subst h2;cases lo with
  |none=>
   simp only [bndV,Option.some.injEq] at h1;subst h1;simp [loOf,hiOf]
  |some x=>
   cases a with
   |none=>simp only [bndV] at h1;split at h1<;>simp at h1
   |some n=>
    simp only [loOf,hiOf] at*;have:=q5N (P:=P) (hlo x rfl) h1 len (.sliceB) w g0 (by omega)
    simp [this]
 |some y=>
  cases b with
  |none=>simp only [bndV] at h2;split at h2<;>simp at h2
  |some m=>
   simp only [hiOf] at*;have hh:=q5N (P:=P) (hhi y rfl) h2 cap (if isS then .sliceAcap else .sliceAlen) w h0' (by omega)
   cases lo with
   |none=>
    simp only [bndV,Option.some.injEq] at h1;subst h1;simp [loOf,hh]
   |some x=>
    cases a with
    |none=>simp only [bndV] at h1;split at h1<;>simp at h1
    |some n=>
     simp only [loOf] at*;have:=q5N (P:=P) (hlo x rfl) h1 m.toNat (.sliceB) w g0 (by omega)
     simp [hh,this]

def sliceTo(a b:Nat):SV→Option SV
 |.isl t xs=>some (.isl t ((xs.take b).drop a))
 |.raw (.string s)=>some (.raw (.string (s.extract a b)))
 |.bld h t _=>some (.osl h t a (b-a))
 |.osl h t off _=>some (.osl h t (off+a) (b-a))
 |.csl h t k i _=>some (.csl h t k (i+a) (b-a))
 |.raw (.slice none 0 0)=>some (.raw (.slice none 0 0))
 |_=>none
def lenOfS:SV→Nat
 |.isl _ xs=>xs.length
 |.raw (.string s)=>s.size
 |.bld _ _ n=>n
 |.osl _ _ _ n=>n
 |.csl _ _ _ _ n=>n
 |_=>0
def sliceKind(P:Program)(T:TypeId):SV→Bool
 |.raw (.string _)=>match P.underlying T with|some .string=>true|_=>false
 |.isl t _=>match P.underlying T with|some (.slice e)=>(P.info? e).map (·.size)==some t.size|_=>false
 |.bld _ t _=>match P.underlying T with|some (.slice e)=>(P.info? e).map (·.size)==some t.size|_=>false
 |.osl _ t _ _=>match P.underlying T with|some (.slice e)=>(P.info? e).map (·.size)==some t.size|_=>false
 |.raw (.slice none 0 0)=>match P.underlying T with|some (.slice e)=>(P.info? e).isSome|_=>false
 |.csl _ t _ _ _=>match P.underlying T with|some (.slice e)=>(P.info? e).map (·.size)==some t.size|_=>false
 |_=>false

theorem q2i{T:TypeId}{n:Nat}(h:(match P.underlying T with|some (.slice e)=>(P.info? e).map (·.size)==some n|_=>false)=true):∃e,P.underlying T=some (.slice e)∧(P.info? e).map (·.size)=some n:=by
 split at h
 · exact ⟨_,by assumption,by simpa using h⟩
 cases h

theorem z5m{C:Cx}{xs:List t.den}{A:Option Addr}{c a b m:Nat}(hd:(SV.isl t xs).den C (.slice A xs.length c))(hab:a≤b)(hb:b≤xs.length)(hm:m=c):
 (SV.isl t ((xs.take b).drop a)).den C (.slice (if m=a then A else A.map (·.add (a*t.size))) (b-a) (m-a)):=by
 subst hm;rw [SV.den] at hd⊢;obtain ⟨A',n,c',e,hn,hc,hlim,hd⟩:=hd;simp only [List.cons.injEq,Value.slice.injEq,and_true] at e;obtain ⟨rfl,rfl,rfl⟩:=e;refine ⟨_,_,_,rfl,by simp;omega,by omega,by omega,?_⟩
 by_cases hz:b-a=0
 · exact .inl (A7 (by simp;omega))
 rcases hd with rfl| ⟨blk,off,rfl,hI,hd⟩
 · simp at hb;omega
 refine .inr ⟨blk,off+a*t.size,?_,hI,fun i x hx=> ?_⟩
 · rw [if_neg (by omega)];simp [q0J]
 rw [AF,AH] at hx;split at hx
 · obtain ⟨us,h1,h2⟩:=hd (a+i) x hx;exact ⟨us,h1,fun k u hu=>by rw [←h2 k u hu,Nat.add_mul];congr 2;omega⟩
 cases hx

theorem z7e{T:TypeId}{x:Operand}{lo hi:Option Operand}{a b:Option Int}{s:SV}(hop:o.op= .slice T x lo hi none)(hk0:sliceKind P T (ev x)=true)(h1:bndV ev lo=some a)(h2:bndV ev hi=some b)
 (g0:0≤loOf a)(g1:loOf a≤hiOf (lenOfS (ev x)) b)(g2:hiOf (lenOfS (ev x)) b≤(lenOfS (ev x):Int))(hs:sliceTo (loOf a).toNat (hiOf (lenOfS (ev x)) b).toNat (ev x)=some s)(hk:K (.ret s) H):OpV P o ev H K:=by
 refine q0i (by rw [hop];intro c hc;cases hc) (s:=s) (fun C e _ hv=> ?_) hk
 rw [hop] at hv;have hx:=hv x (by simp [Op.operands])
 have hlo:∀y∈lo,(ev y).den C (e y):=fun y hy=>hv y (by simp [Op.operands];cases hy;simp)
 have hhi:∀y∈hi,(ev y).den C (e y):=fun y hy=>hv y (by simp [Op.operands];cases hy;simp)
 have hexec:∀r:Value,(Instr.sliceAt T (e x) (lo.map e) (hi.map e) none).run P C.w= .ok r C.w→(execOp e o).run P C.w= .ok (.value r) C.w:=fun r hr=>by
  simp [execOp,hop,hr]
 generalize hsx:ev x=sx at*;unfold sliceKind at hk0;split at hk0
 · rename_i str;split at hk0
   · rename_i hu;rw [SV.den] at hx;simp only [sliceTo,Option.some.injEq] at hs;subst hs;simp only [lenOfS] at*;have hb:=q3k (P:=P) (C:=C) (e:=e) (isS:=false) (len:=str.size) (cap:=str.size) hlo hhi h1 h2 C.w g0 g1 g2;refine ⟨_,hexec (.string (str.extract (loOf a).toNat (hiOf str.size b).toNat)) ?_,by rw [SV.den]⟩
     simp [Instr.sliceAt,run_underlying' hu,Instr.slice,hx,hb]
   cases hk0
 · rename_i ty xs;obtain ⟨el,hu,hsz⟩:=q2i hk0;simp only [sliceTo,Option.some.injEq] at hs;subst hs;simp only [lenOfS] at*;have hx':=hx;rw [SV.den] at hx;obtain ⟨A,n,c,e0,hn,hc,hlim,hd⟩:=hx;simp only [List.cons.injEq,and_true] at e0;subst hn;have hb:=q3k (P:=P) (C:=C) (e:=e) (isS:=true) (len:=xs.length) (cap:=c) hlo hhi h1 h2 C.w g0 g1 (by omega)
   rw [e0] at hx';refine ⟨_,hexec _ ?_,z5m hx' (by omega) (by omega) rfl⟩
   simp [Instr.sliceAt,run_underlying' hu,Instr.slice,e0,hb,q0j hsz]
 · rename_i h ty n;obtain ⟨el,hu,hsz⟩:=q2i hk0;simp only [sliceTo,Option.some.injEq] at hs;subst hs;simp only [lenOfS] at*;have hx:=q5O hx;rw [SV.den] at hx;obtain ⟨hn,A,c,e0,hc,hd⟩:=hx;have hb:=q3k (P:=P) (C:=C) (e:=e) (isS:=true) (len:=n) (cap:=c) hlo hhi h1 h2 C.w g0 g1 (by omega)
   refine ⟨.slice (if c=(loOf a).toNat then A else A.map (·.add ((loOf a).toNat*ty.size))) ((hiOf n b).toNat- (loOf a).toNat) (c- (loOf a).toNat),hexec _ ?_,?_⟩
   · simp [Instr.sliceAt,run_underlying' hu,Instr.slice,e0,hb,q0j hsz]
   rw [SV.den];refine ⟨hn,_,_,rfl,by omega,?_⟩
   by_cases hz:(hiOf n b).toNat- (loOf a).toNat=0
   · exact .inl hz
   rcases hd with h0| ⟨blk,hblk,rfl⟩
   · omega
   refine .inr ⟨blk,hblk,?_⟩;rw [if_neg (by omega)]
   simp [q0J]
 · rename_i h ty off n;obtain ⟨el,hu,hsz⟩:=q2i hk0;simp only [sliceTo,Option.some.injEq] at hs;subst hs;simp only [lenOfS] at*;rw [SV.den] at hx;obtain ⟨hn,A,c,e0,hc,hd⟩:=hx;have hb:=q3k (P:=P) (C:=C) (e:=e) (isS:=true) (len:=n) (cap:=c) hlo hhi h1 h2 C.w g0 g1 (by omega)
   refine ⟨.slice (if c=(loOf a).toNat then A else A.map (·.add ((loOf a).toNat*ty.size))) ((hiOf n b).toNat- (loOf a).toNat) (c- (loOf a).toNat),hexec _ ?_,?_⟩
   · simp [Instr.sliceAt,run_underlying' hu,Instr.slice,e0,hb,q0j hsz]
   rw [SV.den];refine ⟨hn,_,_,rfl,by omega,?_⟩
   by_cases hz:(hiOf n b).toNat- (loOf a).toNat=0
   · exact .inl hz
   rcases hd with h0| ⟨blk,hblk,rfl⟩
   · omega
   refine .inr ⟨blk,hblk,?_⟩;rw [if_neg (by omega)]
   simp [q0J,Nat.add_mul]
 · split at hk0
   · rename_i el hu;simp only [sliceTo,Option.some.injEq] at hs;subst hs;simp only [lenOfS] at*;rw [SV.den] at hx;have hb:=q3k (P:=P) (C:=C) (e:=e) (isS:=true) (len:=0) (cap:=0) hlo hhi h1 h2 C.w g0 g1 g2;have e1:(loOf a).toNat=0:=by omega
     have e2:(hiOf 0 b).toNat=0:=by omega
     rw [e1,e2] at hb;obtain ⟨i,hi'⟩:=Ci.1 hk0;refine ⟨_,hexec (.slice none 0 0) ?_,by rw [SV.den]⟩
     simp [Instr.sliceAt,run_underlying' hu,Instr.slice,hx,hb,sizeOf,typeInfo,hi']
   cases hk0
 · rename_i h ty k0 off n;obtain ⟨el,hu,hsz⟩:=q2i hk0;simp only [sliceTo,Option.some.injEq] at hs;subst hs;simp only [lenOfS] at*;rw [SV.den] at hx;obtain ⟨hn,A,c,e0,hc,hd⟩:=hx;have hb:=q3k (P:=P) (C:=C) (e:=e) (isS:=true) (len:=n) (cap:=c) hlo hhi h1 h2 C.w g0 g1 (by omega)
   refine ⟨.slice (if c=(loOf a).toNat then A else A.map (·.add ((loOf a).toNat*ty.size))) ((hiOf n b).toNat- (loOf a).toNat) (c- (loOf a).toNat),hexec _ ?_,?_⟩
   · simp [Instr.sliceAt,run_underlying' hu,Instr.slice,e0,hb,q0j hsz]
   rw [SV.den];refine ⟨hn,_,_,rfl,by omega,?_⟩
   by_cases hz:(hiOf n b).toNat- (loOf a).toNat=0
   · exact .inl hz
   rcases hd with h0| ⟨blk,hblk,rfl⟩
   · omega
   refine .inr ⟨blk,hblk,?_⟩;rw [if_neg (by omega)]
   simp only [q0J,CT,Nat.add_mul];congr 2;omega
 cases hk0

end Go.Sx
namespace Go.Sx
open Go

variable [Ghost] {P:Program} {AQ:Ex→List SV→List SObj→Prop} {k0:Nat} {k:List It} {tm:List SV} {H:List SObj}

mutual
def SV.frz(h:Nat)(t:Ty)(xs:List t.den):SV→SV
 |.bld h' t' n=>if h'=h∧t'=t then .isl t (xs.take n) else .bld h' t' n
 |.osl h' t' off n=>if h'=h∧t'=t then .isl t ((xs.drop off).take n) else .osl h' t' off n
 |.agg l=>.agg (SV.frzL h t xs l)
 |.tup l=>.tup (SV.frzL h t xs l)
 |.iface T x=>.iface T (SV.frz h t xs x)
 |s=>s
def SV.frzL(h:Nat)(t:Ty)(xs:List t.den):List SV→List SV
 | []=>[]
 |s :: l=>SV.frz h t xs s :: SV.frzL h t xs l
end
mutual
def SV.frzOb(h:Nat)(t:Ty)(xs:List t.den):SV→Prop
 |.bld h' t' n=>if h'=h∧t'=t then n≤xs.length else True
 |.osl h' t' off n=>if h'=h∧t'=t then off+n≤xs.length else True
 |.agg l=>SV.frzObL h t xs l
 |.tup l=>SV.frzObL h t xs l
 |.iface _ x=>SV.frzOb h t xs x
 |_=>True
def SV.frzObL(h:Nat)(t:Ty)(xs:List t.den):List SV→Prop
 | []=>True
 |s :: l=>SV.frzOb h t xs s∧SV.frzObL h t xs l
end

def Cx.frz(C:Cx)(h:Nat):Cx:={C with I:=fun b=>C.I b∨C.ρ h=some b}
theorem q0X(C:Cx)(h:Nat):Evo C (C.frz h):=⟨Ae _,fun _ _=>rfl,fun _ hb=>⟨.inl hb,rfl⟩,fun _ _ h=>h⟩

theorem q5A{C:Cx}{h off n:Nat}{t:Ty}{xs:List t.den}{v:Value}(hw:Wd C H)(hH:H[h]?=some (.row t xs))(hlen:xs.length≤1125899906842624)(ho:off+n≤xs.length)(hd:(SV.osl h t off n).den C v):(SV.isl t ((xs.drop off).take n)).den (C.frz h) v:=by
 obtain ⟨A,c,rfl,hc,hd⟩:=q9E hw hH hd ho;rw [SV.den];refine ⟨A,n,c,rfl,by simp;omega,hc,by omega,?_⟩
 rcases hd with h0| ⟨b,rfl,hb,_,hr⟩
 · exact .inl (by simp [h0])
 refine .inr ⟨b,off*t.size,rfl,.inr hb,fun i x hx=> ?_⟩;obtain ⟨us,g1,g2⟩:=hr i x hx;exact ⟨us,Ty.rel_keep (q0X C h).I _ _ _ g1,g2⟩

mutual
theorem q3E{C:Cx}{h:Nat}{t:Ty}{xs:List t.den}(hw:Wd C H)(hH:H[h]?=some (.row t xs))(hlen:xs.length≤1125899906842624):∀ {s:SV} {v:Value},s.frzOb h t xs→s.den C v→(s.frz h t xs).den (C.frz h) v
 |.any,_,_,d=>by rw [SV.frz];exact q0Z (q0X C h) d;all_goals (intros;contradiction)
 |.raw _,_,_,d=>by rw [SV.frz];exact q0Z (q0X C h) d;all_goals (intros;contradiction)
 |.isl _ _,_,_,d=>by rw [SV.frz];exact q0Z (q0X C h) d;all_goals (intros;contradiction)
 |.fsl _ _,_,_,d=>by rw [SV.frz];exact q0Z (q0X C h) d;all_goals (intros;contradiction)
 |.iptr _ _ _,_,_,d=>by rw [SV.frz];exact q0Z (q0X C h) d;all_goals (intros;contradiction)
 |.ptr _ _,_,_,d=>by rw [SV.frz];exact q0Z (q0X C h) d;all_goals (intros;contradiction)
 |.rptr _ _ _ _,_,_,d=>by rw [SV.frz];exact q0Z (q0X C h) d;all_goals (intros;contradiction)
 |.dat _ _,_,_,d=>by rw [SV.frz];exact q0Z (q0X C h) d;all_goals (intros;contradiction)
 |.csl ..,_,_,d=>by rw [SV.frz];exact q0Z (q0X C h) d;all_goals (intros;contradiction)
 |.mp _,_,_,d=>by rw [SV.frz];exact q0Z (q0X C h) d;all_goals (intros;contradiction)
 |.imap ..,_,_,d=>by rw [SV.frz];exact q0Z (q0X C h) d;all_goals (intros;contradiction)
 |.fn _ _ _,_,_,d=>by rw [SV.frz];exact q0Z (q0X C h) d;all_goals (intros;contradiction)
 |.bld h' t' n,v,ob,d=>by
  rw [SV.frz];rw [SV.frzOb] at ob;split
  · rename_i e;rw [if_pos e] at ob;obtain ⟨rfl,rfl⟩:=e;have:=q5A hw hH hlen (off:=0) (n:=n) (by omega) (q5O d)
    simpa using this
  exact q0Z (q0X C h) d
 |.osl h' t' off n,v,ob,d=>by
  rw [SV.frz];rw [SV.frzOb] at ob;split
  · rename_i e;rw [if_pos e] at ob;obtain ⟨rfl,rfl⟩:=e;exact q5A hw hH hlen ob d
  exact q0Z (q0X C h) d
 |.agg l,v,ob,d=>by
  rw [SV.frz,SV.den];rw [SV.frzOb] at ob;rw [SV.den] at d;obtain ⟨vs,hv,hl⟩:=d;exact ⟨vs,hv,q2r hw hH hlen ob hl⟩
 |.tup l,v,ob,d=>by
  rw [SV.frz,SV.den];rw [SV.frzOb] at ob;rw [SV.den] at d;obtain ⟨vs,hv,hl⟩:=d;exact ⟨vs,hv,q2r hw hH hlen ob hl⟩
 |.iface T x,v,ob,d=>by
  rw [SV.frz,SV.den];rw [SV.frzOb] at ob;rw [SV.den] at d;obtain ⟨u,hv,hl⟩:=d;exact ⟨u,hv,q3E hw hH hlen ob hl⟩
theorem q2r{C:Cx}{h:Nat}{t:Ty}{xs:List t.den}(hw:Wd C H)(hH:H[h]?=some (.row t xs))(hlen:xs.length≤1125899906842624):∀ {l:List SV} {vs:List Value},SV.frzObL h t xs l→SV.denL C l vs→SV.denL (C.frz h) (SV.frzL h t xs l) vs
 | [],_,_,d=>by rw [SV.frzL,SV.denL];rw [SV.denL] at d;exact d
 |s :: l,_,ob,d=>by
  rw [SV.frzL,SV.denL];rw [SV.frzObL] at ob;rw [SV.denL] at d;obtain ⟨v,us,rfl,d1,d2⟩:=d;exact ⟨v,us,rfl,q3E hw hH hlen ob.1 d1,q2r hw hH hlen ob.2 d2⟩
end

def SObj.frz(h:Nat)(t:Ty)(xs:List t.den):SObj→SObj
 |.cells T cs=>.cells T (SV.frzL h t xs cs)
 |.map kk ks vs=>.map kk ks (SV.frzL h t xs vs)
 |o=>o
def SObj.frzOb(h:Nat)(t:Ty)(xs:List t.den):SObj→Prop
 |.cells _ cs=>SV.frzObL h t xs cs
 |.map _ _ vs=>SV.frzObL h t xs vs
 |_=>True
def frzObH(h:Nat)(t:Ty)(xs:List t.den):List SObj→Prop
 | []=>True
 |x :: l=>x.frzOb h t xs∧frzObH h t xs l
theorem q5l{h:Nat}{t:Ty}{xs:List t.den}:∀ {H:List SObj} {i:Nat} {x:SObj},frzObH h t xs H→H[i]?=some x→x.frzOb h t xs
 | [],_,_,_,hi=>by simp at hi
 |y :: l,0,x,ho,hi=>by simp at hi;subst hi;exact ho.1
 |y :: l,i+1,x,ho,hi=>q5l ho.2 (by simpa using hi)
theorem z9B{h:Nat}{t:Ty}{xs:List t.den}(x:SObj):(x.frz h t xs).live=x.live:=by cases x<;>rfl

def frzH(h:Nat)(t:Ty)(xs:List t.den)(H:List SObj):List SObj:=(H.map (SObj.frz h t xs)).set h .dead

theorem q4E{h:Nat}{t:Ty}{xs:List t.den}{i:Nat}{y:SObj}(hy:(frzH h t xs H)[i]?=some y)(hl:y.live=true):i≠h∧∃x,H[i]?=some x∧y=x.frz h t xs∧x.live=true:=by
 unfold frzH at hy;have hne:i≠h:=fun e=>by
  subst e;rcases AC i (H.map (SObj.frz i t xs)).length with h1|h1
  · rw [Ar h1] at hy;cases hy;simp [SObj.live] at hl
  rw [AJ (by simpa using h1)] at hy;cases hy
 rw [Aq (Ne.symm hne),AN] at hy;cases hx:H[i]? with
 |none=>simp [hx] at hy
 |some x=>simp [hx] at hy;exact ⟨hne,x,rfl,hy.symm,by rw [←hy,z9B] at hl;exact hl⟩

theorem z3F{h n:Nat}{t:Ty}{xs:List t.den}(hH:H[h]?=some (.row t xs))(hm:H[0]?=some (.mark n)):(frzH h t xs H)[0]?=some (.mark n):=by
 unfold frzH;have hne:h≠0:=fun e=>by subst e;rw [hm] at hH;cases hH
 rw [Aq hne,AN,hm];rfl
theorem j1u{C:Cx}{h:Nat}{t:Ty}{xs:List t.den}(hw:Wd C H)(hH:H[h]?=some (.row t xs)){b:Nat}:OwnB (C.frz h) (frzH h t xs H) b→OwnB C H b∧C.ρ h≠some b:=by
 rintro ⟨i,y,hy,hl,hb⟩;obtain ⟨hne,x,hxi,rfl,hlx⟩:=q4E hy hl;exact ⟨⟨i,x,hxi,hlx,hb⟩,fun e=>hne (hw.inj i h x _ b hxi hH hlx rfl hb e)⟩
theorem z7k{E:En}{C:Cx}{h:Nat}{t:Ty}{xs:List t.den}(hw:Wd C H)(hx:Ext E C H)(hH:H[h]?=some (.row t xs))(hlen:xs.length≤1125899906842624)(ho:frzObH h t xs H):Wd (C.frz h) (frzH h t xs H)∧Ext E (C.frz h) (frzH h t xs H):=by
 have hown:∀b,OwnB (C.frz h) (frzH h t xs H) b→OwnB C H b∧C.ρ h≠some b:=by
  rintro b ⟨i,y,hy,hl,hb⟩;obtain ⟨hne,x,hxi,rfl,hlx⟩:=q4E hy hl;exact ⟨⟨i,x,hxi,hlx,hb⟩,fun e=>hne (hw.inj i h x _ b hxi hH hlx rfl hb e)⟩
 have hownh:∀b,C.ρ h=some b→OwnB C H b:=fun b hb=>⟨h,_,hH,rfl,hb⟩;refine ⟨⟨by simp [frzH,Cx.frz,hw.n],?_,?_,?_,?_⟩,⟨hx.evo.trans (q0X C h),hx.size,hx.os,hx.tape,hx.output,hx.frame,?_,?_,fun n h0 hn=>z3F hH (hx.keep0 n h0 hn)⟩⟩
 · intro i y hy;by_cases hl:y.live=true
   · obtain ⟨hne,x,hxi,rfl,hlx⟩:=q4E hy hl;have hobj:=hw.obj i x hxi;cases x with
     |dead=>trivial
     |cells T cs=>
      obtain ⟨b,vs,h1,h2,h3⟩:=hobj;exact ⟨b,vs,h1,h2,q2r hw hH hlen (q5l ho hxi) h3⟩
     |mark n=>trivial
     |map kk ks vs=>
      obtain ⟨b,us,h1,h2,h3⟩:=hobj;exact ⟨b,us,h1,h2,q2r hw hH hlen (q5l ho hxi) h3⟩
     |row t' ys=>exact q0C (q0X C h).I i rfl (fun _ _=>rfl) (q0f (q0X C h)) hobj
   cases y<;>first|trivial|simp [SObj.live] at hl
 · intro b hb;obtain ⟨h1,h2⟩:=hown b hb;have:=hw.own b h1;exact ⟨fun hi=>hi.elim this.1 h2,this.2⟩
 · intro i j y y' b hy hy' hl hl' hb hb';obtain ⟨_,x,hxi,rfl,hlx⟩:=q4E hy hl;obtain ⟨_,x',hxj,rfl,hlx'⟩:=q4E hy' hl';exact hw.inj i j x x' b hxi hxj hlx hlx' hb hb'
 · rintro b (hb|hb)
   · exact hw.imm b hb
   exact (hw.own b (hownh b hb)).2
 · rintro b (hb|hb)
   · exact hx.immNew b hb
   exact .inr ⟨hx.ownNew b (hownh b hb),(q4v hw (hownh b hb):Unf C.w b)⟩
 intro b hb;exact hx.ownNew b (hown b hb).1

theorem z0j(h:Nat){t:Ty}{xs:List t.den}(hH:H[h]?=some (.row t xs))(hlen:xs.length≤1125899906842624)(ho:frzObH h t xs H)(hot:SV.frzObL h t xs tm)(hs:Sound P AQ ⟨k0,k,SV.frzL h t xs tm,frzH h t xs H⟩):Sound P AQ ⟨k0,k,tm,H⟩:=by
 intro E r n C a h0 hd;obtain ⟨g1,g2⟩:=z7k hd.wd hd.ext hH hlen ho;have hdef:DefOk E (C.frz h) (frzH h t xs H) a.defers:=⟨hd.defs.1,Ghost.same hd.wd rfl (fun _ h=>.inl h) (fun b hb=>orMap hb id fun hb=>⟨h,_,hH,rfl,hb⟩) (fun b hb=>(j1u hd.wd hH hb).1) (fun _ _ hn=>z3F hH hn) hd.ext.evo.n hd.defs.2⟩;exact hs E r n (C.frz h) a h0 ⟨g1,g2,hdef,q2r hd.wd hH hlen hot hd.tmps⟩

end Go.Sx
namespace Go.Sx
open Go

variable [Ghost] {P:Program} {o:Oper} {ev:Operand→SV} {H:List SObj} {K:Out→List SObj→Prop}

theorem q7i{src dst:TypeId}{x:Operand}{e':TypeId}{h n:Nat}{xs:List UInt8}(hop:o.op= .convert src dst x)(hs:P.underlying src=some (.slice e'))(ht:P.underlying dst=some .string)(he:P.underlying e'=some (.int .u8))(hx:ev x= .bld h .u8 n)
 (hH:H[h]?=some (.row .u8 xs))(hn:n≤xs.length)(hlen:xs.length≤1125899906842624)(hk:K (.ret (.raw (.string (strOf (xs.take n))))) H):OpV P o ev H K:=by
 refine q0i (by rw [hop];intro c hc;cases hc) (fun C e hw hv=> ?_) hk
 have h0:=hv x (by rw [hop];simp [Op.operands])
 rw [hx] at h0;have h1:=q5A hw hH hlen (off:=0) (n:=n) (by omega) (q5O h0)
 rw [Au] at h1;have hb:=q1X (P:=P) h1;rw [SV.den] at h1;obtain ⟨A,n',c,e0,_⟩:=h1;simp only [List.cons.injEq,and_true] at e0;rw [e0] at hb;have hb':(Conv.bytesToString (.slice A n' c)).run P C.w= .ok (.string (strOf (xs.take n))) C.w:=hb;exact ⟨.string (strOf (xs.take n)),by simp [execOp,hop,e0,convert,run_underlying' hs,run_underlying' ht,run_underlying' he,hb',Result.andThen],by rw [SV.den]⟩

mutual
def SV.toV:SV→Option Value
 |.raw v=>some v
 |.fn f a b=>match SV.toVL a,SV.toVL b with
  |some x,some y=>some (.func (.func f) x.toArray y.toArray)
  |_,_=>none
 |.agg l=>match SV.toVL l with
  |some x=>some (.agg x.toArray)
  |none=>none
 |_=>none
def SV.toVL:List SV→Option (List Value)
 | []=>some []
 |s :: l=>match SV.toV s,SV.toVL l with
  |some v,some vs=>some (v :: vs)
  |_,_=>none
end
mutual
theorem z4X{C:Cx}:∀ {s:SV} {v u:Value},s.toV=some u→s.den C v→v=u
 |.raw _,v,u,h,d=>by rw [SV.toV] at h;cases h;rw [SV.den] at d;exact d
 |.fn f a b,v,u,h,d=>by
  rw [SV.toV] at h;split at h
  · rename_i x y h1 h2;cases h;rw [SV.den] at d;obtain ⟨v1,v2,rfl,d1,d2⟩:=d;rw [q6o h1 d1,q6o h2 d2]
  cases h
 |.agg l,v,u,h,d=>by
  rw [SV.toV] at h;split at h
  · rename_i x h1;cases h;rw [SV.den] at d;obtain ⟨vs,rfl,d1⟩:=d;rw [q6o h1 d1]
  cases h
 |.any,_,_,h,_=>by simp [SV.toV] at h
 |.isl ..,_,_,h,_=>by simp [SV.toV] at h
 |.fsl ..,_,_,h,_=>by simp [SV.toV] at h
 |.iptr ..,_,_,h,_=>by simp [SV.toV] at h
 |.ptr ..,_,_,h,_=>by simp [SV.toV] at h
 |.rptr ..,_,_,h,_=>by simp [SV.toV] at h
 |.bld ..,_,_,h,_=>by simp [SV.toV] at h
 |.osl ..,_,_,h,_=>by simp [SV.toV] at h
 |.csl ..,_,_,h,_=>by simp [SV.toV] at h
 |.dat ..,_,_,h,_=>by simp [SV.toV] at h
 |.tup _,_,_,h,_=>by simp [SV.toV] at h
 |.iface ..,_,_,h,_=>by simp [SV.toV] at h
 |.mp _,_,_,h,_=>by simp [SV.toV] at h
 |.imap ..,_,_,h,_=>by simp [SV.toV] at h
theorem q6o{C:Cx}:∀ {l:List SV} {vs us:List Value},SV.toVL l=some us→SV.denL C l vs→vs=us
 | [],vs,us,h,d=>by rw [SV.toVL] at h;cases h;rw [SV.denL] at d;exact d
 |s :: l,vs,us,h,d=>by
  rw [SV.toVL] at h;split at h
  · rename_i v ws h1 h2;cases h;rw [SV.denL] at d;obtain ⟨v',us',rfl,d1,d2⟩:=d;rw [z4X h1 d1,q6o h2 d2]
  cases h
end
def SV.ofV:Value→SV
 |.agg cs=>.agg (rawL cs.toList)
 |v=>.raw v
theorem z6s{C:Cx}(v:Value):(SV.ofV v).den C v:=by
 unfold SV.ofV;split
 · rw [SV.den];exact ⟨_,by simp,q1e _⟩
 rw [SV.den]

def keyKind(P:Program)(t:TypeId):Option (Option IntKind):=match P.underlying t with
 |some (.int k)=>some (some k)
 |some .string=>some none
 |_=>none

theorem q3j{t:TypeId}{kk:Option IntKind}(h:keyKind P t=some kk):(∃k,kk=some k∧P.underlying t=some (.int k))∨(kk=none∧P.underlying t=some .string):=by
 unfold keyKind at h;split at h<;>cases h
 · exact .inl ⟨_,rfl,by assumption⟩
 exact .inr ⟨rfl,by assumption⟩

theorem z1M{t:TypeId}{kk:Option IntKind}{d:TypeDesc}(h:keyKind P t=some kk)(hd:P.underlying t=some d){k k':Value}(h1:keyIs kk k=true)(h2:keyIs kk k'=true):Instr.sameNow d k k'=some (keyEq k k'):=by
 rcases q3j h with ⟨q,rfl,hu⟩ | ⟨rfl,hu⟩
 · rw [hu] at hd;cases hd;cases k<;>simp [keyIs] at h1
   cases k'<;>simp [keyIs] at h2
   subst h1 h2;simp [Instr.sameNow,keyEq];rfl
 rw [hu] at hd;cases hd;cases k<;>simp [keyIs] at h1
 cases k'<;>simp [keyIs] at h2
 simp only [Instr.sameNow,keyEq,Option.some.injEq];rw [BF,decide_eq_true_eq];exact MapKept.bytes_beq _ _

theorem q7v{t:TypeId}{kk:Option IntKind}{d:TypeDesc}(h:keyKind P t=some kk)(hd:P.underlying t=some d){k:Value}(h1:keyIs kk k=true):∀ (es:List MapEntry) (j:Nat),(∀e∈es,keyIs kk e.key=true)→
 Instr.findNow d k es j=some (match findI k (es.map (·.key)) with|some i=>some (i+j,(es.map (·.val)).getD i undef) |none=>none)
 | [],j,_=>by simp [Instr.findNow,findI]
 |e :: es,j,hk=>by
  have h2:=z1M h hd h1 (hk e (by simp))
  have ih:=q7v h hd h1 es (j+1) (fun e' he'=>hk e' (by simp [he']))
  simp only [Instr.findNow,h2,AT,findI];cases hq:keyEq k e.key
  · simp only [Bd,if_false,ih];cases hf:findI k (es.map (·.key)) with
    |none=>rfl
    |some i=>simp;omega
  simp

theorem q7B{t:TypeId}{kk:Option IntKind}(h:keyKind P t=some kk){k:Value}(h1:keyIs kk k=true)(es:List MapEntry)(hk:∀e∈es,keyIs kk e.key=true)(w:World):
 (Instr.findKey t k es).run P w= .ok (match findI k (es.map (·.key)) with|some i=>some (i,(es.map (·.val)).getD i undef) |none=>none) w:=by
 have:∃d,P.underlying t=some d:=by rcases q3j h with ⟨q,_,hu⟩ | ⟨_,hu⟩ <;>exact ⟨_,hu⟩
 obtain ⟨d,hd⟩:=this;have:=q7v h hd h1 es 0 hk;simp only [Instr.findKey,Sem.run_bind,run_underlying' hd,Result.andThen,this];cases findI k (es.map (·.key)) <;>simp

theorem z3y{t:TypeId}{kk:Option IntKind}(h:keyKind P t=some kk){k:Value}(hk:keyIs kk k=true):∃d,P.underlying t=some d∧MapKept.IsKey d k:=by
 rcases q3j h with ⟨q,rfl,hu⟩ | ⟨rfl,hu⟩
 · exact ⟨_,hu,by cases k<;>simp [keyIs] at hk;simp [MapKept.IsKey,hk]⟩
 exact ⟨_,hu,by cases k<;>simp [keyIs] at hk;simp [MapKept.IsKey]⟩
theorem q2I{t:TypeId}{kk:Option IntKind}(h:keyKind P t=some kk){b:Bool}{k:Value}(hk:keyIs kk k=true)(w:World):(Instr.checkKey b 10000 t k).run P w= .ok () w:=by
 obtain ⟨d,hd,hi⟩:=z3y h hk;exact MapKept.run_checkKey hd hi b 9999

theorem q8K:∀ {k:Value} {ks:List Value} {i:Nat},findI k ks=some i→i<ks.length∧∃k',ks[i]?=some k'∧keyEq k k'=true
 |k,[],i,h=>by simp [findI] at h
 |k,k' :: ks,i,h=>by
  simp only [findI] at h;split at h
  · cases h;exact ⟨by simp,k',rfl,by assumption⟩
  simp only [Ap] at h;obtain ⟨j,hj,rfl⟩:=h;obtain ⟨h1,k'',h2,h3⟩:=q8K hj;exact ⟨by simpa using h1,k'',by simpa using h2,h3⟩
theorem z4t{kk:Option IntKind}{k k':Value}(h1:keyIs kk k=true)(h2:keyIs kk k'=true)(h:keyEq k k'=true):k'=k:=by
 cases kk<;>cases k<;>simp [keyIs] at h1<;>cases k'<;>simp [keyIs] at h2<;>simp [keyEq] at h<;>subst_vars<;>rfl

theorem z1p{T:TypeId}(kk:Option IntKind)(hop:o.op= .makeMap T none)(hk:K (.ret (.mp H.length)) (H++ [.map kk [] []])):OpV P o ev H K:=by
 refine q0R (by rw [hop];intro c hc;cases hc) fun C e hw _=> ?_
 obtain ⟨g1,g2⟩:=q5u hw (.map #[] 0) (.map kk [] []) ⟨C.w.heap.size,[],by simp [Cx.grow],⟨#[],0,q1y _ _,rfl,rfl,by simp⟩,q0p.2 rfl⟩
 refine ⟨_,.map (some C.w.heap.size),_,_,hk,.inl ?_,g1,g2,?_⟩
 · simp [execOp,hop,Instr.makeMap,Cx.grow,Result.andThen]
 rw [SV.den];exact ⟨by simp [Cx.grow,hw.n],C.w.heap.size,by simp [Cx.grow,hw.n],rfl⟩

def mput{α:Type}(ks:List Value)(vs:List α)(k:Value)(v:α):List Value×List α:=
 match findI k ks with
 |some i=>(ks,vs.set i v)
 |none=>(ks++ [k],vs++ [v])

theorem z3b{α β:Type}{ks:List Value}{vs:List α}{us:List β}{k:Value}{v:α}{u:β}:(mput ks vs k v).1=(mput ks us k u).1:=by
 unfold mput;cases findI k ks<;>rfl
theorem z5N{C:Cx}{ks:List Value}{vs:List SV}{us:List Value}{k v:Value}{s:SV}(hl:SV.denL C vs us)(hs:s.den C v):SV.denL C (mput ks vs k s).2 (mput ks us k v).2:=by
 unfold mput;cases findI k ks with
 |none=>exact q0x.2 ⟨us,[v],rfl,hl,q0c.2 ⟨v,[],rfl,hs,q0p.2 rfl⟩⟩
 |some i=>exact q2p hl hs
def SV.norm(s:SV):SV:=match s.toV with
 |some v=>.raw v
 |none=>s
theorem z8o{C:Cx}{s:SV}{v:Value}(h:s.den C v):s.norm.den C v:=by
 unfold SV.norm;split
 · rename_i u hu;rw [SV.den];exact z4X hu h
 exact h
theorem q8V{T kt et:TypeId}{m k x:Operand}{h:Nat}{kk:Option IntKind}{ks:List Value}{vs:List SV}{kv:Value}(hop:o.op= .mapUpdate T m k x∨o.op= .insert T m k x)(hT:P.underlying T=some (.map kt et))(hkk:keyKind P kt=some kk)
 (hm:ev m= .mp h)(hkv:ev k= .raw kv)(hki:keyIs kk kv=true)(hH:H[h]?=some (.map kk ks vs))(hk:K (.ret .any) (H.set h (.map kk (mput ks vs kv (ev x).norm).1 (mput ks vs kv (ev x).norm).2))):OpV P o ev H K:=by
 refine q0R (by rcases hop with h|h<;> (rw [h];intro c hc;cases hc)) fun C e hw hv=> ?_
 have v1:=hv m (by rcases hop with h|h<;> (rw [h];simp [Op.operands]))
 have v2:=hv k (by rcases hop with h|h<;> (rw [h];simp [Op.operands]))
 have v3:=z8o (hv x (by rcases hop with h|h<;> (rw [h];simp [Op.operands])))
 obtain ⟨xv,hxv⟩:∃xv,xv=e x:=⟨_,rfl⟩;rw [←hxv] at v3;rw [hm,SV.den] at v1;rw [hkv,SV.den] at v2;obtain ⟨_,b,hb,v1⟩:=v1;obtain ⟨b',us,hb',⟨es,clock,hes,hks,hvs,hall⟩,hus⟩:=hw.obj h _ hH;rw [hb] at hb';cases hb';have hke:∀e∈es.toList,keyIs kk e.key=true:=fun e he=>hall _ (by rw [←hks];exact List.mem_map_of_mem he)
 have hfind:=fun w=>q7B (P:=P) hkk hki es.toList hke w;have main:∀es' clock',(es'.toList.map (·.key),es'.toList.map (·.val))=mput ks us kv xv→(Instr.mapUpdate T (e m) (e k) (e x)).run P C.w= .ok () {C.w with heap:=C.w.heap.setIfInBounds b (.map es' clock')}→
  ∃s v H' C',K (.ret s) H'∧((execOp e o).run P C.w= .ok (.value v) C'.w∨((execOp e o).run P C.w= .ok .skip C'.w∧v=undef))∧Wd C' H'∧Ext ⟨C,H⟩ C' H'∧s.den C' v:=fun es' clock' hput hrun=>by
  have hlt:b<C.w.heap.size:=(AA.1 hes).1;have hob:OwnB C H b:=⟨h,_,hH,rfl,hb⟩
  have he:Evo C {C with w:={C.w with heap:=C.w.heap.setIfInBounds b (.map es' clock')}}:=⟨Ae _,fun _ _=>rfl,fun b' hi=>⟨hi,by
   have hne:b'≠b:=fun e=>(hw.own b hob).1 (e▸hi)
   simp [Ne.symm hne]⟩,fun b' m hm=>by
   by_cases hbb:b'=b
   · subst hbb;unfold World.bsize at hm;rw [hes] at hm;cases hm
   unfold World.bsize at hm⊢;rw [show ({C.w with heap:=C.w.heap.setIfInBounds b (.map es' clock')}:World).heap[b']?=C.w.heap[b']? by simp [Ne.symm hbb]];exact hm⟩
  have hkeys:∀k'∈(mput ks us kv xv).1,keyIs kk k'=true:=by
   unfold mput;split
   · exact hall
   intro k' hk';rcases BX.1 hk' with h1|h1
   · exact hall k' h1
   rw [BJ.1 h1];exact hki
  obtain ⟨g1,g2,g3⟩:=z0P (so':=.map kk (mput ks vs kv (ev x).norm).1 (mput ks vs kv (ev x).norm).2) hw hH rfl rfl hb {C.w with heap:=C.w.heap.setIfInBounds b (.map es' clock')} (fun b' hb'=>by simp [Ne.symm hb']) (by simp)
   (fun m hm=>by unfold World.bsize at hm;rw [hes] at hm;cases hm) rfl rfl rfl
   ⟨b,(mput ks us kv xv).2,hb,⟨es',clock',by simp [hlt],by rw [z3b (us:=us) (u:=xv),←hput],by rw [←hput],by rw [z3b (us:=us) (u:=xv)];exact hkeys⟩,q0f he (z5N hus v3)⟩
  refine ⟨_,undef,_,_,hk,.inr ⟨?_,rfl⟩,g1,g2,by rw [SV.den];trivial⟩
  rcases hop with h|h<;>simp [execOp,h,hrun,Result.andThen]
 cases hf:findI kv ks with
 |none=>
  refine main (es.push {key:=kv,val:=xv,born:=clock}) (clock+1) (by simp [mput,hf,hks,hvs]) ?_
  simp [Instr.mapUpdate,run_underlying' hT,v1,v2,←hxv,hes,q2I hkk hki,MapKept.run_getObj_map hes,MapKept.run_setObj_map _ hes,hfind,hks,hf,Result.andThen]
 |some i=>
  obtain ⟨hi,k',hk',hkeq⟩:=q8K hf;have hkk':k'=kv:=z4t hki (hall k' (BC hk')) hkeq;subst hkk';have hes':(es[i]?).map (·.key)=some k':=by
   rw [←hks] at hk';simpa using hk'
  have hbits:(Instr.keyThatStays k' k').run P C.w= .ok k' C.w:=by
   obtain ⟨d,hd,hi⟩:=z3y hkk hki;exact MapKept.run_keyThatStays hi
  have hlen:es.toList.length=ks.length:=by rw [←hks];simp
  refine main (es.modify i fun e=>{e with key:=k',val:=xv}) clock ?_ ?_
  · simp only [mput,hf,Prod.mk.injEq];constructor
    · rw [←hks];apply Bc;intro j;by_cases hj:j=i
      · subst hj;simp only [Cb,AN,B5];have:(es.toList[j]?).map (·.key)=some k':=by simpa using hes'
        cases he:es.toList[j]? with
        |none=>simp
        |some e=>simp [he] at this;simp [this]
      simp [Cb,B5,Ne.symm hj]
    rw [←hvs];apply Bc;intro j;have hil:i<es.toList.length:=by omega
    by_cases hj:j=i
    · subst hj;simp only [Cb,AN,B5,if_true];rw [Ar (by simpa using hil),Ab hil]
      simp
    rw [Aq (Ne.symm hj)];simp [Cb,B5,Ne.symm hj]
  simp [Instr.mapUpdate,run_underlying' hT,v1,v2,←hxv,hes,q2I hkk hki,MapKept.run_getObj_map hes,MapKept.run_setObj_map _ hes,hfind,hks,hf,Result.andThen,hes',hbits]

def mget(ks:List Value)(vs:List SV)(z k:Value):SV×Bool:=
 match findI k ks with
 |some i=>(vs.getD i (.raw undef),true)
 |none=>(.raw z,false)
def SV.ofS:SV→SV
 |.raw v=>.ofV v
 |s=>s
theorem z6w{C:Cx}{s:SV}{v:Value}(h:s.den C v):s.ofS.den C v:=by
 unfold SV.ofS;split
 · rw [SV.den] at h;subst h;exact z6s _
 exact h
def mres(ok:Bool)(p:SV×Bool):SV:=if ok then .tup [p.1.ofS,.raw (.bool p.2)] else p.1.ofS

def zeroOf(P:Program)(t:TypeId):Option Value:=(P.info? t).bind (·.zero)
theorem q8i{t:TypeId}{z:Value}(h:zeroOf P t=some z)(w:World):(zeroValue t).run P w= .ok z w:=by
 unfold zeroOf at h;cases hi:P.info? t with
 |none=>simp [hi] at h
 |some i=>
  simp [hi] at h;simp [zeroValue,typeInfo,hi,h]

def unrawL:List SV→Option (List Value)
 | []=>some []
 |.raw v :: l=>(unrawL l).map (v :: ·)
 |_ :: _=>none
theorem q4D:∀ {l:List SV} {us:List Value},unrawL l=some us→l=rawL us
 | [],_,h=>by cases h;rfl
 |.raw v :: l,_,h=>by
  simp only [unrawL,Ap] at h;obtain ⟨us,h1,rfl⟩:=h;rw [q4D h1];rfl
 |.any :: _,_,h=>by cases h
 |.isl _ _ :: _,_,h=>by cases h
 |.fsl _ _ :: _,_,h=>by cases h
 |.iptr .. :: _,_,h=>by cases h
 |.ptr .. :: _,_,h=>by cases h
 |.rptr .. :: _,_,h=>by cases h
 |.bld .. :: _,_,h=>by cases h
 |.osl .. :: _,_,h=>by cases h
 |.csl .. :: _,_,h=>by cases h
 |.dat .. :: _,_,h=>by cases h
 |.agg _ :: _,_,h=>by cases h
 |.tup _ :: _,_,h=>by cases h
 |.fn .. :: _,_,h=>by cases h
 |.iface .. :: _,_,h=>by cases h
 |.mp _ :: _,_,h=>by cases h
 |.imap .. :: _,_,h=>by cases h
def mapOf(H:List SObj):SV→Option (Option IntKind×List Value×List SV)
 |.mp h=>match H[h]? with
  |some (.map kk ks vs)=>some (kk,ks,vs)
  |_=>none
 |.imap kk ks vs=>some (kk,ks,rawL vs)
 |_=>none
theorem z1f{C:Cx}{s:SV}{v:Value}{kk:Option IntKind}{ks:List Value}{vs:List SV}(hw:Wd C H)(h:mapOf H s=some (kk,ks,vs))(d:s.den C v):∃b us,v= .map (some b)∧mapAt C.w b kk ks us∧SV.denL C vs us:=by
 unfold mapOf at h;split at h
 · split at h
   · rename_i hH;cases h;rw [SV.den] at d;obtain ⟨_,b,hb,hv⟩:=d;obtain ⟨b',us,hb',hm,hu⟩:=hw.obj _ _ hH;rw [hb] at hb';cases hb';exact ⟨b,us,hv,hm,hu⟩
   cases h
 · cases h;rw [SV.den] at d;obtain ⟨b,hv,_,hm⟩:=d;exact ⟨b,_,hv,hm,q1e _⟩
 cases h

theorem z4h{T kt et:TypeId}{m k:Operand}{ok:Bool}{kk:Option IntKind}{ks:List Value}{vs:List SV}{kv z:Value}(hop:o.op= .lookup T m k ok)(hT:P.underlying T=some (.map kt et))(hkk:keyKind P kt=some kk)(hz:zeroOf P et=some z)
 (hm:mapOf H (ev m)=some (kk,ks,vs))(hkv:ev k= .raw kv)(hki:keyIs kk kv=true)(hk:K (.ret (mres ok (mget ks vs z kv))) H):OpV P o ev H K:=by
 refine q0i (by rw [hop];intro c hc;cases hc) (s:=mres ok (mget ks vs z kv)) (fun C e hw hv=> ?_) hk
 have v1:=hv m (by rw [hop];simp [Op.operands])
 have v2:=hv k (by rw [hop];simp [Op.operands])
 rw [hkv,SV.den] at v2;obtain ⟨b,us,v1,⟨es,clock,hes,hks,hvs,hall⟩,hus⟩:=z1f hw hm v1;have hke:∀e∈es.toList,keyIs kk e.key=true:=fun e he=>hall _ (by rw [←hks];exact List.mem_map_of_mem he)
 have hfind:=q7B (P:=P) hkk hki es.toList hke C.w;have hlen:es.toList.length=ks.length:=by rw [←hks];simp
 have hgd:(mget ks vs z kv).1.den C (match findI kv ks with|some i=>us.getD i undef|none=>z):=by
  unfold mget;cases hf:findI kv ks with
  |none=>exact (by rw [SV.den]:(SV.raw z).den C z)
  |some i=>
   have hi:=(q8K hf).1;have hul:i<us.length:=by rw [←hvs,A5,hlen];exact hi
   have hvl:i<vs.length:=by rw [←q0B hus];exact hul
   have:=q1B hus (Ab hvl);obtain ⟨v,h1,h2⟩:=this;have e1:vs.getD i (.raw undef)=vs[i]:=by rw [Ad,Ab hvl];rfl
   have e2:us.getD i undef=v:=by rw [Ad,h1];rfl
   show (vs.getD i (.raw undef)).den C (us.getD i undef);rw [e1,e2];exact h2
 have hgb:(mget ks vs z kv).2=(findI kv ks).isSome:=by
  unfold mget;cases findI kv ks<;>rfl
 generalize hu:(match findI kv ks with|some i=>us.getD i undef|none=>z)=u at hgd
 refine ⟨if ok then .tuple #[u,.bool (mget ks vs z kv).2] else u,?_,?_⟩
 · rw [hgb,←hu];cases hf:findI kv ks with
   |none=>simp [execOp,hop,Instr.lookup,run_underlying' hT,v1,v2,hes,q2I hkk hki,MapKept.run_getObj_map hes,MapKept.run_setObj_map _ hes,hfind,hks,hf,Result.andThen,q8i hz]
   |some i=>simp [execOp,hop,Instr.lookup,run_underlying' hT,v1,v2,hes,q2I hkk hki,MapKept.run_getObj_map hes,MapKept.run_setObj_map _ hes,hfind,hks,hvs,hf,Result.andThen]
 unfold mres;cases ok
 · simp only [Bd,if_false];exact z6w hgd
 simp only [if_true];rw [SV.den];exact ⟨[u,.bool (mget ks vs z kv).2],rfl,q0c.2 ⟨_,_,rfl,z6w hgd,q0c.2 ⟨_,_,rfl,by rw [SV.den],q0p.2 rfl⟩⟩⟩

theorem z1y{c:Call}{t kt et:TypeId}{x:Operand}{kk:Option IntKind}{ks:List Value}{vs:List SV}(hop:o.op= .call c)(hc:c.callee= .builtin .len)(ha:c.args= #[x])(hty:c.argTypes= #[t])(hT:P.underlying t=some (.map kt et))
 (hm:mapOf H (ev x)=some (kk,ks,vs))(hk:K (.ret (.raw (.int .i64 ks.length))) H):OpV P o ev H K:=by
 refine q0i (by rw [hop];intro c hc;cases hc) (fun C e hw hv=> ?_) hk
 have h0:=hv x (by rw [hop];simp [Op.operands,Call.operands,hc,ha])
 obtain ⟨b,us,v1,⟨es,clock,hes,hks,hvs,hall⟩,_⟩:=z1f hw hm h0;refine ⟨.int .i64 ks.length,?_,by rw [SV.den]⟩
 have hl:es.size=ks.length:=by rw [←hks];simp
 have hrun:(Builtin.len_ #[t] o.type #[e x]).run P C.w= .ok (.int .i64 ks.length) C.w:=by
  simp [Builtin.len_,v1,run_underlying' hT,MapKept.run_getObj_map hes,goInt,Result.andThen,hl]
 simp [execOp,hop,resolve,hc,ha,hty,invoke,builtin,hrun,Result.andThen]
end Go.Sx
