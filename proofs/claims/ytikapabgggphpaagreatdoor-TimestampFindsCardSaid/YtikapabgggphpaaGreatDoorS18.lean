/- SHA-256: words, and the reference's functions on them. -/
import Derived.Test.YtikapabgggphpaaGreatDoorS17
import Derived.Deep.Draws
import Derived.Sort.Grow
set_option linter.all false
namespace Go.Proofs.YtikapabgggphpaaGreatDoor
open Go Go.Sx Go.Proofs
set_option maxRecDepth 100000
set_option maxHeartbeats 4000000
abbrev inW(x:Int):Prop:=0≤x∧x<4294967296
def xorW(a b:Int):Int:=((a.toNat^^^ b.toNat:Nat):Int)
def andW(a b:Int):Int:=((a.toNat&&& b.toNat:Nat):Int)
def rotW(n:Nat)(x:Int):Int:=x / 2^ n+x*2^ (32-n)%4294967296
def chW(e f g:Int):Int:=xorW (andW e f) (andW (4294967295-e) g)
def majW(a b c:Int):Int:=xorW (xorW (andW a b) (andW a c)) (andW b c)
theorem q0Q{a b:Int}(ha:inW a)(hb:inW b):inW (xorW a b):=by
 have:a.toNat^^^ b.toNat<2^ 32:=Nat.xor_lt_two_pow (by omega) (by omega)
 unfold xorW;omega
theorem q0S{a b:Int}(ha:inW a)(_:inW b):inW (andW a b):=by
 have:a.toNat&&& b.toNat≤a.toNat:=Nat.and_le_left;unfold andW;omega
theorem q0D{n:Nat}{x:Int}(h1:1≤n)(h2:n≤31)(hx:inW x):inW (rotW n x):=by
 obtain ⟨x,rfl⟩:∃m:Nat,x=m:=⟨x.toNat,by omega⟩
 unfold rotW;have hx':x<2^ n*2^ (32-n):=by rw [←CF,show n+ (32-n)=32 by omega];omega
 have e1:((x:Int) / 2^ n)=((x / 2^ n:Nat):Int):=by simp
 have e2:((x:Int)*2^ (32-n)%4294967296)=((x*2^ (32-n)%4294967296:Nat):Int):=by simp
 rw [e1,e2];have h3:x / 2^ n<2^ (32-n):=Nat.div_lt_of_lt_mul hx';have h4:x*2^ (32-n)%4294967296=(x%2^ n)*2^ (32-n):=by
  have:(4294967296:Nat)=2^ n*2^ (32-n):=by rw [←CF,show n+ (32-n)=32 by omega]
  rw [this,Nat.mul_mod_mul_right]
 have h5:x%2^ n<2^ n:=CP _ (Nat.two_pow_pos n);have h6:(x%2^ n+1)*2^ (32-n)≤2^ n*2^ (32-n):=A7 _ h5;rw [←CF,show n+ (32-n)=32 by omega,Nat.add_mul] at h6
 rw [h4];generalize x / 2^ n=u at*;generalize x%2^ n*2^ (32-n)=v at*;generalize 2^ (32-n)=w at*;clear e1 e2 h4 h5 hx';omega
theorem z2N{k:IntKind}{a b:Int}(hk:32≤k.bits)(ha:inW a)(hb:inW b):((BitVec.ofInt k.bits a^^^ BitVec.ofInt k.bits b).toNat:Int)=xorW a b:=by
 obtain ⟨a,rfl⟩:∃m:Nat,a=m:=⟨a.toNat,by omega⟩
 obtain ⟨b,rfl⟩:∃m:Nat,b=m:=⟨b.toNat,by omega⟩
 have hp:2^ 32≤2^ k.bits:=AZ (by decide) hk
 unfold xorW;rw [BitVec.toNat_xor,AO,AO,AX,AX,AY (by omega),AY (by omega)]
 rfl
theorem z2W{k:IntKind}{a b:Int}(hk:32≤k.bits)(ha:inW a)(hb:inW b):((BitVec.ofInt k.bits a&&& BitVec.ofInt k.bits b).toNat:Int)=andW a b:=by
 obtain ⟨a,rfl⟩:∃m:Nat,a=m:=⟨a.toNat,by omega⟩
 obtain ⟨b,rfl⟩:∃m:Nat,b=m:=⟨b.toNat,by omega⟩
 have hp:2^ 32≤2^ k.bits:=AZ (by decide) hk
 unfold andW;rw [BitVec.toNat_and,AO,AO,AX,AX,AY (by omega),AY (by omega)]
 rfl
theorem w64{a:Int}(ha:inW a):IntKind.i64.wrap a=a:=by rw [IntWalk.i64_in _ (by omega)]
theorem w32{a:Int}(ha:inW a):IntKind.u32.wrap a=a:=by
 have h:IntKind.u32.wrap a=a%4294967296:=rfl;rw [h];omega
theorem xor64{a b:Int}(ha:inW a)(hb:inW b):xorK .i64 a b=xorW a b:=by unfold xorK;rw [z2N (by decide) ha hb,w64 (q0Q ha hb)]
theorem and64{a b:Int}(ha:inW a)(hb:inW b):andK .i64 a b=andW a b:=by unfold andK;rw [z2W (by decide) ha hb,w64 (q0S ha hb)]
theorem xor32{a b:Int}(ha:inW a)(hb:inW b):xorK .u32 a b=xorW a b:=by unfold xorK;rw [z2N (by decide) ha hb,w32 (q0Q ha hb)]
theorem and32{a b:Int}(ha:inW a)(hb:inW b):andK .u32 a b=andW a b:=by unfold andK;rw [z2W (by decide) ha hb,w32 (q0S ha hb)]

theorem q2A(x:Int)(n:Nat)(h1:1≤n)(h2:n≤31)(hx:inW x):PC Tryz.prog 162 [rI x,rI n] (rI (rotW n x)):=by
 have e0:IntKind.i64.wrap (32- (n:Int))=((32-n:Nat):Int):=by rw [IntWalk.i64_in _ (by omega)];omega
 refine q0p rfl rfl ?_;refine rQ fi162 ?_;refine ⟨by omega,by rw [e0];omega,by decide,?_⟩
 obtain ⟨m,rfl⟩:∃m:Nat,x=m:=⟨x.toNat,by omega⟩
 have hm:m<4294967296:=by omega
 have hp:2^ (32-n)≤2^ 31:=AZ (by decide) (by omega)
 have h5:m*2^ (32-n)≤4294967295*2^ 31:=Nat.mul_le_mul (by omega) hp
 rw [e0,Aq,Ba (by omega),Ba (by omega)]
 congr 1;have e1:(m:Int)*2^ (32-n)=((m*2^ (32-n):Nat):Int):=by simp
 have e2:(m:Int).fdiv (2^ n)=(m:Int) / 2^ n:=AV _ (by exact_mod_cast Ai (2^ n))
 have hr:=q0D h1 h2 hx;unfold rotW at hr⊢;rw [e2,e1,wrapi (n:=((m*2^ (32-n):Nat):Int)) (by omega),As (by omega)]
 rw [e1] at hr;rw [wrapi (by omega)]
theorem j4E(e f g:Int)(he:inW e)(hf:inW f)(hg:inW g):PC Tryz.prog 163 [rI e,rI f,rI g] (rI (chW e f g)):=by
 have e0:IntKind.i64.wrap (4294967295-e)=4294967295-e:=by rw [IntWalk.i64_in _ (by omega)]
 have hn:inW (4294967295-e):=by omega
 have e1:=and64 he hf;have e2:=and64 hn hg;have e3:=xor64 (q0S he hf) (q0S hn hg);refine q0p rfl rfl ?_;refine rQ fi163 ?_;rw [e0,e1,e2,e3];rfl
theorem j4O(a b c:Int)(ha:inW a)(hb:inW b)(hc:inW c):PC Tryz.prog 164 [rI a,rI b,rI c] (rI (majW a b c)):=by
 have e1:=and64 ha hb;have e2:=and64 ha hc;have e3:=and64 hb hc;have e4:=xor64 (q0S ha hb) (q0S ha hc);have e5:=xor64 (q0Q (q0S ha hb) (q0S ha hc)) (q0S hb hc);refine q0p rfl rfl ?_;refine rQ fi164 ?_;rw [e1,e2,e4,e3,e5];rfl
abbrev W32:Int:=4294967296
def byI(b:List UInt8)(j:Nat):Int:=((b.getD j 0).toNat:Int)
theorem j0J(b:List UInt8)(j:Nat):0≤byI b j∧byI b j<256:=by
 have:=(b.getD j 0).toNat_lt;unfold byI;omega
def wdP(b:List UInt8)(t:Nat):Nat→Int
 |0=>0
 |i+1=>256*wdP b t i+byI b (4*t+i)
theorem z6A(b:List UInt8)(t:Nat):∀i,i≤4→inW (wdP b t i)∧wdP b t i<256^ i
 |0,_=>by simp [wdP,inW]
 |i+1,hi=>by
  have:=z6A b t i (by omega)
  have hb:=j0J b (4*t+i);have h3:i=0∨i=1∨i=2∨i=3:=by omega
  rcases h3 with rfl|rfl|rfl|rfl<;> (simp only [wdP] at*;simp at*;omega)
def sg0(x:Int):Int:=xorW (xorW (rotW 7 x) (rotW 18 x)) (x / 8)
def sg1(y:Int):Int:=xorW (xorW (rotW 17 y) (rotW 19 y)) (y / 1024)
theorem j4Z{x:Int}(h:inW x):inW (sg0 x):=q0Q (q0Q (q0D (by decide) (by decide) h) (q0D (by decide) (by decide) h)) (by omega)
theorem j4d{x:Int}(h:inW x):inW (sg1 x):=q0Q (q0Q (q0D (by decide) (by decide) h) (q0D (by decide) (by decide) h)) (by omega)
def wS(b:List UInt8)(t:Nat):Int:=if h:t<16 then wdP b t 4 else (sg1 (wS b (t-2))+wS b (t-7)+sg0 (wS b (t-15))+wS b (t-16))%W32
termination_by t
theorem q9Z{b:List UInt8}{t:Nat}(h:t<16):wS b t=wdP b t 4:=by rw [wS,dif_pos h]
theorem z0J{b:List UInt8}{t:Nat}(h:16≤t):wS b t=(sg1 (wS b (t-2))+wS b (t-7)+sg0 (wS b (t-15))+wS b (t-16))%W32:=by rw [wS,dif_neg (by omega)]
theorem q1V(b:List UInt8)(t:Nat):inW (wS b t):=by
 rcases AJ t 16 with h|h
 · rw [q9Z h];exact (z6A b t 4 (Ag _)).1
 rw [z0J h];unfold inW W32;omega
def wL(b:List UInt8)(t:Nat):List Int:=(List.range 64).map fun j=>if j<t then wS b j else 0
theorem q3g(b:List UInt8)(t:Nat):(wL b t).length=64:=by simp [wL]
theorem q0P(b:List UInt8){t j:Nat}(h:j<t)(h2:j<64):(wL b t).getD j 0=wS b j:=by
 simp [wL,Aa,h2,h]
theorem q3h(b:List UInt8){t:Nat}(h:t<64):(wL b t).set t (wS b t)=wL b (t+1):=by
 apply Au
 · simp [wL]
 intro j h1 h2;simp [wL] at h1 h2;rw [A4];simp only [wL,AC,Ax];split
 · subst_vars;rw [if_pos (by omega)]
 rename_i hne;by_cases hj:j<t
 · rw [if_pos hj,if_pos (by omega)]
 rw [if_neg hj,if_neg (by omega)]
theorem q5m(b:List UInt8):wL b 0=List.replicate 64 0:=by
 unfold wL;rw [BH];refine ⟨by rw [A1,Be],fun x hx=> ?_⟩
 obtain ⟨j,_,rfl⟩:=Bu.1 hx;exact if_neg (Bp _)
theorem j0U(b:List UInt8){t:Nat}(h2:t<64):(wL b t).set t 0=wL b t:=by
 apply Au
 · simp [wL]
 intro j h1 h3;rw [A4];split
 · subst_vars;simp [wL]
 rfl
def kS(t:Nat):Int:=dat_ref04_constants.getD t 0
def bs1(e:Int):Int:=xorW (xorW (rotW 6 e) (rotW 11 e)) (rotW 25 e)
def bs0(a:Int):Int:=xorW (xorW (rotW 2 a) (rotW 13 a)) (rotW 22 a)
def t1S(k w:Int)(v:List Int):Int:=v.getD 7 0+bs1 (v.getD 4 0)+chW (v.getD 4 0) (v.getD 5 0) (v.getD 6 0)+k+w
def t2S(v:List Int):Int:=bs0 (v.getD 0 0)+majW (v.getD 0 0) (v.getD 1 0) (v.getD 2 0)
def rnd(k w:Int)(v:List Int):List Int:=
 [(t1S k w v+t2S v)%W32,v.getD 0 0,v.getD 1 0,v.getD 2 0,(v.getD 3 0+t1S k w v)%W32,v.getD 4 0,v.getD 5 0,v.getD 6 0]
def rnds(b:List UInt8)(h:List Int):Nat→List Int
 |0=>h
 |t+1=>rnd (kS t) (wS b t) (rnds b h t)
abbrev inWs(v:List Int):Prop:=v.length=8∧∀x∈v,inW x
theorem q0c{v:List Int}(h:inWs v)(i:Nat)(hi:i<8):inW (v.getD i 0):=by
 rw [Aa,Ae (by omega)]
 exact h.2 _ (Bq _)
theorem j0I{x:Int}(h:inW x):inW (bs1 x):=q0Q (q0Q (q0D (by decide) (by decide) h) (q0D (by decide) (by decide) h)) (q0D (by decide) (by decide) h)
theorem j0F{x:Int}(h:inW x):inW (bs0 x):=q0Q (q0Q (q0D (by decide) (by decide) h) (q0D (by decide) (by decide) h)) (q0D (by decide) (by decide) h)
theorem j0k{e f g:Int}(he:inW e)(hf:inW f)(hg:inW g):inW (chW e f g):=q0Q (q0S he hf) (q0S (by omega) hg)
theorem z7q{a b c:Int}(ha:inW a)(hb:inW b)(hc:inW c):inW (majW a b c):=q0Q (q0Q (q0S ha hb) (q0S ha hc)) (q0S hb hc)
theorem j4o{k w:Int}{v:List Int}(h:inWs v):inWs (rnd k w v):=by
 refine ⟨rfl,fun x hx=> ?_⟩;have hm:∀y:Int,inW (y%W32):=fun y=>by unfold inW W32;omega
 simp only [rnd,Bm,BW,or_false] at hx;rcases hx with rfl|rfl|rfl|rfl|rfl|rfl|rfl|rfl
 · exact hm _
 · exact q0c h 0 (by decide)
 · exact q0c h 1 (by decide)
 · exact q0c h 2 (by decide)
 · exact hm _
 · exact q0c h 4 (by decide)
 · exact q0c h 5 (by decide)
 exact q0c h 6 (by decide)
theorem q1f{b:List UInt8}{h:List Int}(hh:inWs h):∀t,inWs (rnds b h t)
 |0=>hh
 |t+1=>j4o (q1f hh t)
theorem j4p:∀t,t<64→inW (kS t):=by decide
def blkS(b:List UInt8)(h:List Int):List Int:=(List.range 8).map fun i=>(h.getD i 0+ (rnds b h 64).getD i 0)%W32
def blkP(b:List UInt8)(h:List Int)(n:Nat):List Int:=(List.range 8).map fun i=>if i<n then (h.getD i 0+ (rnds b h 64).getD i 0)%W32 else h.getD i 0
end Go.Proofs.YtikapabgggphpaaGreatDoor
namespace Go.Sx
open Go
variable [Ghost] {P:Program} {AQ:Ex→List SV→List SObj→Prop} {k0:Nat} {k:List IT} {t:List SV} {H:List SObj}

structure Cln (cs:List SV):Prop where
 ren:∀σ,SV.renL σ cs=cs
 bel:∀n,SV.belL n cs=true
 shut:∀n H,SV.sealBL n H cs=some (cs,True)
 le:SV.leAL cs cs
theorem z3J{n:Nat}{l:List SObj}:sealHL n H l []=True:=by simp [sealHL]
theorem z0U{n:Nat}{o:SObj}{l l':List SObj}:sealHL n H (o :: l) (.dead :: l')=(o.unmarked∧sealHL n H l l'):=by simp [sealHL]
attribute [go_sem] z3J z0U
end Go.Sx
namespace Go.Sx
open Go
variable [Ghost] {P:Program} {AQ:Ex→List SV→List SObj→Prop} {k0:Nat} {k:List IT} {t:List SV} {H:List SObj}

def afterR(P:Program)(AQ:Ex→List SV→List SObj→Prop)(d:Option Tmp)(m:IM):Out→List SObj→Prop
 |.ret s,H'=>SoundI P AQ {m with tmps:=putT m.tmps d s,heap:=H'}
 |.pan s,H'=>AQ (.pan s) [] H'
theorem q0K{G:List Nat}{f:FuncId}{args args0:List SV}{H0 H1:List SObj}{o:Out}{d:Option Tmp}{m:IM}(hs:List Nat)(hp:PE P f args0 H0 o H1)(hargs:args=SV.renL (sig hs m.heap.length) args0)(hnd:hs.Nodup)
 (ha:atH (sig hs m.heap.length) m.heap hs H0)(hb:SV.belL H0.length args0=true)(hbh:belH H0.length H0=true)(hG:SameG G m.heap (mgA (sig hs m.heap.length) hs H1 m.heap))
 (h:afterR P AQ d m (o.ren (sig hs m.heap.length)) (mgA (sig hs m.heap.length) hs H1 m.heap)):CallR P AQ G f args d m:=by
 subst hargs;refine ⟨hp.1,VCall.g (VCall.fr hs hnd ha hb hbh hp.2 ?_)⟩;rintro o' H' _ ⟨rfl,rfl⟩;cases o' with
 |ret s=>exact ⟨fun _=>hG,h⟩
 |pan s=>exact h

theorem z5p{C:Cx}{h:Nat}{T:TypeId}{cs cs':List SV}(hw:Wd C H)(hH:H[h]?=some (.cells T cs))(hd:∀vs,SV.denL C cs vs→SV.denL C cs' vs):Wd C (H.set h (.cells T cs'))∧Ext ⟨C,H⟩ C (H.set h (.cells T cs')):=by
 have hget:∀ {i y},(H.set h (.cells T cs'))[i]?=some y→∃y',H[i]?=some y'∧y'.live=y.live∧(i≠h→y'=y):=fun {i y} hy=>by
  by_cases e:i=h
  · subst e;rw [Av (Af.1 hH).1] at hy;cases hy;exact ⟨_,hH,rfl,fun hn=>absurd rfl hn⟩
  rw [Ap (Ne.symm e)] at hy;exact ⟨y,hy,rfl,fun _=>rfl⟩
 have hown:∀b,OwnB C (H.set h (.cells T cs')) b→OwnB C H b:=fun b ⟨i,y,hy,hl,hb⟩=>by
  obtain ⟨y',h1,h2,_⟩:=hget hy;exact ⟨i,y',h1,by rw [h2];exact hl,hb⟩
 refine ⟨⟨by rw [Bb];exact hw.n,fun i y hy=> ?_,fun b hb=>hw.own b (hown b hb),fun i j y z b hy hz hl hl' hb hb'=> ?_,hw.imm⟩,⟨Evo.refl _,Ag _,rfl,rfl,rfl,fun _ _ _=>rfl,fun _ h=>.inl h,fun b hb=>.inr (hown b hb),fun _ _ hm=>q3O hH rfl hm⟩⟩
 · by_cases e:i=h
   · subst e;rw [Av (Af.1 hH).1] at hy;cases hy;obtain ⟨b,vs,h1,h2,h3⟩:=hw.obj i _ hH;exact ⟨b,vs,h1,h2,hd vs h3⟩
   rw [Ap (Ne.symm e)] at hy;exact hw.obj i y hy
 obtain ⟨y',h1,h2,_⟩:=hget hy;obtain ⟨z',h3,h4,_⟩:=hget hz;exact hw.inj i j y' z' b h1 h3 (by rw [h2];exact hl) (by rw [h4];exact hl') hb hb'
theorem q8x{P:Program}{k:List It}{tm:List SV}(h off:Nat)(ty:Ty){T:TypeId}{cs:List SV}(hH:H[h]?=some (.cells T cs))(hi:cs[off]?=some (.raw (.slice none 0 0)))(hs:Sound P AQ ⟨k0,k,tm,(H.set h (.cells T (cs.set off (.bld H.length ty 0))))++ [.row ty []]⟩):Sound P AQ ⟨k0,k,tm,H⟩:=by
 intro E r n C a h0 hd;obtain ⟨C',hw,g1,g2,g3⟩:=z1U (t:=ty) hd.wd;have hH':(H++ [SObj.row ty []])[h]?=some (.cells T cs):=by rw [Ak (Af.1 hH).1];exact hH
 obtain ⟨q1,q2⟩:=z5p (cs':=cs.set off (.bld H.length ty 0)) g1 hH' (fun vs hv=>by
  obtain ⟨v,hv',hd'⟩:=q1Y hv hi;rw [SV.den] at hd';subst hd';have:=q2Y (i:=off) hv g3;have he:vs.set off (.slice none 0 0)=vs:=by
   apply Br;intro j;by_cases e:j=off
   · subst e;rw [Av (Af.1 hv').1,hv']
   rw [Ap (Ne.symm e)]
  rwa [he] at this)
 have hset:(H++ [SObj.row ty []]).set h (.cells T (cs.set off (.bld H.length ty 0)))=H.set h (.cells T (cs.set off (.bld H.length ty 0)))++ [.row ty []]:=List.set_append_left _ _ (Af.1 hH).1;rw [hset] at q1 q2;have:=hs E r n C' a h0 ⟨q1,hd.ext.trans (g2.trans q2),DefOk.next (g2.trans q2) hd.defs,q0n g2.evo hd.tmps⟩
 rw [←hw];exact this
theorem q5u(h off:Nat)(ty:Ty){T:TypeId}{cs:List SV}{td:List IT}(hp:plainT td=true)(hH:H[h]?=some (.cells T cs))(hi:cs[off]?=some (.raw (.slice none 0 0)))(hs:SoundI P AQ ⟨k0,td,t,(H.set h (.cells T (cs.set off (.bld H.length ty 0))))++ [.row ty []]⟩):SoundI P AQ ⟨k0,td,t,H⟩:=
 q0f (fun _ hr=>q8x h off ty hH hi (q0h hs hr)) hp
theorem rnE{p q:Prop}(h:q)(e:p=q:=by (simp only [afterR,Out.ren,SV.ren,mgA,sig,SObj.ren,SV.renL,Bc,AI,List.append_assoc,Cb,List.set_cons_succ,List.set,List.map,Ah];rfl)):p:=Eq.mpr e h
end Go.Sx
namespace Go.Sx
open Go
variable [Ghost] {P:Program} {AQ:Ex→List SV→List SObj→Prop} {k0:Nat} {k:List IT} {t:List SV} {H:List SObj}

end Go.Sx
namespace Go.Sx
open Go
variable {P:Program} {AQ:Ex→List SV→List SObj→Prop} {k0:Nat} {k:List IT} {t:List SV} {H:List SObj}

def SameBut(ws:List Nat)(t t':List SV):Prop:=t'.length=t.length∧∀i,i ∉ ws→t'[i]?=t[i]?
theorem SameBut.put{ws:List Nat}{t t':List SV}(h:SameBut ws t t'){d:Option Tmp}(hd:∀e,d=some e→e∈ws)(s:SV):SameBut ws t (putT t' d s):=by
 cases d with
 |none=>exact h
 |some e=>exact ⟨by simp [putT,h.1],fun i hi=>by
  have hne:e≠i:=fun e'=>hi (e'▸hd e rfl);simp only [putT];rw [Ap hne]
  exact h.2 i hi⟩
theorem z0l:∀ (ws:List Nat) (t:List SV),(maskT ws t).length=t.length
 | [],t=>rfl
 |d :: ws,t=>by
  show (maskT ws (t.set d .any)).length=_;rw [z0l ws,Bb]
theorem z2h:∀ (ws:List Nat) (t:List SV) (i:Nat) (s:SV),(maskT ws t)[i]?=some s→s= .any∨(i ∉ ws∧t[i]?=some s)
 | [],t,i,s,h=>.inr ⟨by simp,h⟩
 |d :: ws,t,i,s,h=>by
  have h':(maskT ws (t.set d .any))[i]?=some s:=h;rcases z2h ws _ i s h' with rfl| ⟨h1,h2⟩
  · exact .inl rfl
  by_cases e:d=i
  · subst e;rw [List.getElem?_set] at h2;simp at h2;exact .inl h2.2.symm
  rw [Ap e] at h2;exact .inr ⟨by simp [h1];exact fun q=>e q.symm,h2⟩
theorem z6f:∀ {l l':List SV},l.length=l'.length→(∀ (i:Nat) s s',l[i]?=some s→l'[i]?=some s'→s'= .any∨s'=s)→leL l l'
 | [],[],_,_=>trivial
 | [],_ :: _,h,_=>by simp at h
 |_ :: _,[],h,_=>by simp at h
 |s :: l,s' :: l',h,hp=>by
  refine ⟨?_,z6f (by simpa using h) fun i x x' hx hx'=>hp (i+1) x x' (by simpa using hx) (by simpa using hx')⟩
  rcases hp 0 s s' rfl rfl with rfl|rfl
  · exact SV.le_any s
  exact SV.le_refl _
theorem SameBut.le{ws:List Nat}{t t':List SV}(h:SameBut ws t t'):leL t' (maskT ws t):=
 z6f (by rw [z0l,h.1]) fun i s s' hs hs'=>by
  rcases z2h ws t i s' hs' with rfl| ⟨h1,h2⟩
  · exact .inl rfl
  right;rw [h.2 i h1,h2] at hs;cases hs;rfl
end Go.Sx
namespace Go.Sx
open Go

def ZInv(q:Nat→Prop)(w0:World)(C:Cx)(H:List SObj):Prop:=∀b,q b→b<C.w.heap.size∧¬C.I b∧¬OwnB C H b∧C.w.heap[b]?=w0.heap[b]?

theorem z5A{E:En}{C:Cx}{H:List SObj}(hx:Ext E C H){b:Nat}(h1:b<E.C.w.heap.size)(h2:¬E.C.I b)(h3:¬OwnB E.C E.H b):b<C.w.heap.size∧¬C.I b∧¬OwnB C H b∧C.w.heap[b]?=E.C.w.heap[b]?:=by
 refine ⟨An h1 hx.size,fun hi=> ?_,fun ho=> ?_,hx.frame b h1 h3⟩
 · rcases hx.immNew b hi with g| ⟨g|g,_⟩
   · exact h2 g
   · exact absurd h1 (AU.2 g)
   exact h3 g
 rcases hx.ownNew b ho with g|g
 · exact absurd h1 (AU.2 g)
 exact h3 g

@[reducible] def frzG(q:Nat→Prop)(w0:World):Ghost where
 inv0:=fun _ C H=>ZInv q w0 C H
 fin:=fun E _ _ ds=>ds=E.base∧True
 toFin0:=fun _ _=>⟨rfl,trivial⟩
 next0:=fun hx h b hb=>by
  obtain ⟨h1,h2,h3,h4⟩:=h b hb;obtain ⟨g1,g2,g3,g4⟩:=z5A hx h1 h2 h3;exact ⟨g1,g2,g3,g4.trans h4⟩
 same0:=fun _ e _ hi ho _ _ h b hb=>by
  obtain ⟨h1,h2,h3,h4⟩:=h b hb;rw [e];exact ⟨h1,fun x=>(hi b x).elim h2 h3,fun x=>h3 (ho b x),h4⟩

def simV(u v:Value):Prop:=v=u∨(∃k n m,u= .int k n∧v= .int k m)∨∃s s',u= .string s∧v= .string s'∧s'.size≤140737488355328
def simB(o o':Option Obj):Prop:=o'=o∨∃ (vs vs':List Value) (T:TypeId) (fz:Nat×Nat),o=some (.cells vs.toArray T fz)∧o'=some (.cells vs'.toArray T fz)∧vs'.length=vs.length∧∀ (i:Nat) u v,vs[i]?=some u→vs'[i]?=some v→simV u v
theorem simV.trans{u v w:Value}(h:simV u v)(k:simV v w):simV u w:=by
 rcases h with rfl| ⟨k',n,m,rfl,rfl⟩ | ⟨s,s',rfl,rfl,h1⟩
 · exact k
 · rcases k with rfl| ⟨k2,n2,m2,h1,rfl⟩ | ⟨s,s',h1,_⟩
   · exact .inr (.inl ⟨_,_,_,rfl,rfl⟩)
   · cases h1;exact .inr (.inl ⟨_,_,_,rfl,rfl⟩)
   cases h1
 rcases k with rfl| ⟨k2,n2,m2,h1,rfl⟩ | ⟨s2,s3,h2,rfl,h3⟩
 · exact .inr (.inr ⟨_,_,rfl,rfl,h1⟩)
 · cases h1
 cases h2;exact .inr (.inr ⟨_,_,rfl,rfl,h3⟩)
def SInv(q:Nat→Prop)(w0:World)(E:En)(C:Cx)(H:List SObj):Prop:=
 ∀b,q b→((E.C.w.heap.size≤b∨OwnB E.C E.H b)∧¬TBlk b)∧b<C.w.heap.size∧¬C.I b∧¬OwnB C H b∧Unf C.w b∧simB w0.heap[b]? C.w.heap[b]?

@[reducible] def scrG(q:Nat→Prop)(w0:World):Ghost where
 inv0:=fun E C H=>SInv q w0 E.toEn C H
 fin:=fun E C H ds=>ds=E.base∧SInv q w0 E.toEn C H
 toFin0:=fun _ h=>⟨rfl,h⟩
 next0:=fun hx h b hb=>by
  obtain ⟨h0,h1,h2,h3,h4,h5⟩:=h b hb;obtain ⟨g1,g2,g3,g4⟩:=z5A hx h1 h2 h3;refine ⟨h0,g1,g2,g3,h4.keep g4,?_⟩;have g4':=g4;simp only at g4';rw [g4'];exact h5
 same0:=fun _ e _ hi ho _ _ h b hb=>by
  obtain ⟨h0,h1,h2,h3,h4,h5⟩:=h b hb;rw [e];exact ⟨h0,h1,fun x=>(hi b x).elim h2 h3,fun x=>h3 (ho b x),h4,h5⟩

def At(q:Nat→Prop)(w0:World)(t:Ty)(x:t.den)(b o:Nat):Prop:=q b∧∃vs,t.rel q w0 x vs∧∀j u,vs[j]?=some u→w0.cell? ⟨b,o+j,none⟩=some u
theorem At.fst{q:Nat→Prop}{w0:World}{s t:Ty}{x:(Ty.prod s t).den}{b o:Nat}(h:At q w0 (.prod s t) x b o):At q w0 s x.1 b o:=by
 obtain ⟨hq,vs,⟨v1,v2,rfl,h1,h2⟩,hc⟩:=h;exact ⟨hq,v1,h1,fun j u hj=>hc j u (by rw [Ak (Af.1 hj).1];exact hj)⟩
theorem At.snd{q:Nat→Prop}{w0:World}{s t:Ty}{x:(Ty.prod s t).den}{b o:Nat}(h:At q w0 (.prod s t) x b o):At q w0 t x.2 b (o+s.size):=by
 obtain ⟨hq,vs,⟨v1,v2,rfl,h1,h2⟩,hc⟩:=h;refine ⟨hq,v2,h2,fun j u hj=> ?_⟩;rw [Nat.add_assoc];refine hc (s.size+j) u ?_;rw [←s.rel_size _ _ h1,Ao (Nat.le_add_right _ _),Cd];exact hj
def Sl(q:Nat→Prop)(w0:World)(t:Ty)(xs:List t.den)(v:Value):Prop:=(Ty.slice t).rel q w0 xs [v]
theorem Sl.out{q:Nat→Prop}{w0:World}{t:Ty}{xs:List t.den}{v:Value}(h:Sl q w0 t xs v):
 ∃A c,v= .slice A xs.length c∧(xs= []∨∃b o,A=some ⟨b,o,none⟩∧∀i x,xs[i]?=some x→At q w0 t x b (o+i*t.size)):=by
 obtain ⟨A,n,c,e,rfl,_,_,h⟩:=h;simp only [List.cons.injEq,and_true] at e;refine ⟨A,c,e,orMap h id ?_⟩;rintro ⟨b,o,rfl,hq,h⟩;exact ⟨b,o,rfl,fun i x hx=>⟨hq,h i x hx⟩⟩
theorem At.sl{q:Nat→Prop}{w0:World}{t:Ty}{xs:List t.den}{b o:Nat}(h:At q w0 (.slice t) xs b o):∃v,Sl q w0 t xs v∧w0.cell? ⟨b,o,none⟩=some v:=by
 obtain ⟨hq,vs,hr,hc⟩:=h;obtain ⟨A,n,c,rfl,_⟩:=id hr;exact ⟨_,hr,hc 0 _ rfl⟩
theorem At.int{q:Nat→Prop}{w0:World}{k:IntKind}{x:(Ty.int k).den}{b o:Nat}(h:At q w0 (.int k) x b o):w0.cell? ⟨b,o,none⟩=some (.int k x):=by
 obtain ⟨hq,vs,rfl,hc⟩:=h;exact hc 0 _ rfl
theorem At.u8{q:Nat→Prop}{w0:World}{x:Ty.u8.den}{b o:Nat}(h:At q w0 .u8 x b o):w0.cell? ⟨b,o,none⟩=some (.int .u8 (UInt8.toNat x)):=by
 obtain ⟨hq,vs,rfl,hc⟩:=h;exact hc 0 _ rfl
theorem At.str{q:Nat→Prop}{w0:World}{x:Ty.str.den}{b o:Nat}(h:At q w0 .str x b o):w0.cell? ⟨b,o,none⟩=some (.string x):=by
 obtain ⟨hq,vs,⟨rfl,_⟩,hc⟩:=h;exact hc 0 _ rfl

variable {P:Program} {AQ:Ex→List SV→List SObj→Prop}
theorem j4w{C:Cx}{H:List SObj}{w':World}(hw:Wd C H)(hs:w'.heap.size=C.w.heap.size)(hb:∀b,C.I b∨OwnB C H b→w'.heap[b]?=C.w.heap[b]?)(hz:∀b m,World.bsize C.w b=some m→World.bsize w' b=some m):
 Wd {C with w:=w'} H∧Evo C {C with w:=w'}:=by
 have he:Evo C {C with w:=w'}:=⟨Ag _,fun _ _=>rfl,fun b hI=>⟨hI,hb b (.inl hI)⟩,hz⟩
 refine ⟨⟨hw.n,fun h o ho=> ?_,fun b hb'=> ?_,hw.inj,fun b hI=> ?_⟩,he⟩
 · by_cases hl:o.live=true
   · exact q0z (C':={C with w:=w'}) he.I h rfl (fun b hb'=>hb b (.inr ⟨h,o,ho,hl,hb'⟩)) (q0n he) (hw.obj h o ho)
   cases o<;>first|trivial|simp [SObj.live] at hl
 · have:=hw.own b hb';exact ⟨this.1,by rw [hs];exact this.2⟩
 rw [hs];exact hw.imm b hI

end Go.Sx
namespace Go.Sx
open Go

variable {P:Program} {AQ:Ex→List SV→List SObj→Prop} {k0:Nat} {k:List IT} {t:List SV} {H:List SObj}

theorem j4q{f:FuncId}{fi:FI}(h:finfo P f=some fi):∃fn c,P.funcs[f]?=some fn∧fn.body=some c∧comp P c=some fi.code∧fn.ntmps=fi.ntmps∧fn.results.toList=fi.results∧enters P f=true:=by
 unfold finfo at h;split at h
 · rename_i fn hf;split at h
   · rename_i c hb;split at h
     · rename_i ic hc;split at h
       · cases h
       rename_i hn;cases h;exact ⟨fn,c,hf,hb,hc,rfl,rfl,by simp [enters,hf,hb];simpa using hn⟩
     cases h
   cases h
 cases h
def VCallZ(q:Nat→Prop)(w0:World)(P:Program)(f:FuncId)(args:List SV)(H:List SObj)(K:Out→List SObj→Prop):Prop:=
 ∀ (C:Cx) (vs:List Value),Wd C H→TabT C H→ZInv q w0 C H→SV.denL C args vs→Calls P f vs.toArray C.w fun e w'=>∃o H' C',K o H'∧C'.w=w'∧Wd C' H'∧Ext ⟨C,H⟩ C' H'∧outDen C' o e
theorem VCallZ.g{q:Nat→Prop}{w0:World}{f:FuncId}{args:List SV}{K:Out→List SObj→Prop}(h:VCallZ q w0 P f args H K): @VCallG (frzG q w0) P f args H K:=
 fun E C vs hw hg hv=>(h C vs hw hg.1.tab hg.2 hv).mono fun _ _ ⟨o,H',C',k,e,w,x,r⟩=>⟨o,H',C',k,e,w, @Stp.of (frzG q w0) E C C' H H' x,r⟩
theorem ZInv.nil{q:Nat→Prop}{w0:World}{C:Cx}(h:ZInv q w0 C H):ZInv q w0 {C with n:=0} []:=fun b hb=>by
 obtain ⟨h1,h2,h3,h4⟩:=h b hb;exact ⟨h1,h2,fun ⟨i,o,ho,_⟩=>by simp at ho,h4⟩
def Ty.flat:Ty→Bool
 |.slice _=>false
 |.prod a b=>a.flat&& b.flat
 |.arr _ t=>t.flat
 |.ptr _=>false
 |.clo _ _=>false
 |.clp _ _=>false
 |.mbs _=>false
 |_=>true
theorem Ty.rel_flat{I I':Nat→Prop}{w w':World}:∀ (t:Ty) (x:t.den) (vs:List Value),t.flat=true→t.rel I w x vs→t.rel I' w' x vs
 |.u8,_,_,_,h=>h
 |.int _,_,_,_,h=>h
 |.bool,_,_,_,h=>h
 |.str,_,_,_,h=>h
 |.slice t,_,_,hf,_=>by cases hf
 |.prod a b,x,vs,hf,h=>by
  obtain ⟨v1,v2,rfl,h1,h2⟩:=h;simp only [Ty.flat,Am] at hf;exact ⟨v1,v2,rfl,a.rel_flat _ _ hf.1 h1,b.rel_flat _ _ hf.2 h2⟩
 |.unit,_,_,_,h=>h
 |.arr n t,xs,vs,hf,h=>by
  obtain ⟨hn,vss,rfl,hl,h⟩:=h;exact ⟨hn,vss,rfl,hl,fun i x us hx hu=>t.rel_flat _ _ hf (h i x us hx hu)⟩
 |.ptr t,_,_,hf,_=>by cases hf
 |.clo _ t,_,_,hf,_=>by cases hf
 |.clp _ t,_,_,hf,_=>by cases hf
 |.mbs t,_,_,hf,_=>by cases hf
def RowK(ty:Ty)(xs:List ty.den):Out→List SObj→Prop:=fun o H'=>(xs= []∧o= .ret (.raw (.slice none 0 0))∧H'= [])∨(o= .ret (.bld 0 ty xs.length)∧H'= [.row ty xs])
theorem z9W{ty:Ty}{xs:List ty.den}{H':List SObj}(h:xs= []):Weak 0 (RowK ty xs) (.ret (.raw (.slice none 0 0))) H':=
 ⟨fun h=>h,.raw (.slice none 0 0),.raw (.slice none 0 0),[],⟨⟨rfl,trivial⟩,trivial,rfl,rfl,rfl,rfl,Ag _,fun _ h0=>absurd h0 (A5 0)⟩,.inl (.inl rfl),.inl ⟨h,rfl,rfl⟩⟩
theorem q5O{ty:Ty}{xs:List ty.den}{H':List SObj}{h n:Nat}(hH:H'[h]?=some (.row ty xs))(hn:n=xs.length):Weak 0 (RowK ty xs) (.ret (.bld h ty n)) H':=by
 subst hn;exact ⟨fun _=>h,.bld 0 ty xs.length,.bld 0 ty xs.length,[.row ty xs],⟨⟨rfl,trivial⟩,⟨hH,trivial⟩,rfl,rfl,rfl,rfl,Ai _,fun _ h0=>absurd h0 (A5 0)⟩,.inl (.inl rfl),.inr ⟨rfl,rfl⟩⟩
theorem Ty.cells_rel{C:Cx}:∀ (t:Ty) (x:t.den) (vs:List Value),t.known=true→t.ok x→SV.denL C (t.cells x) vs→t.rel C.I C.w x vs
 |.u8,_,_,_,_,h=>by simp only [Ty.cells,SV.denL,SV.den] at h;obtain ⟨v,us,rfl,rfl,rfl⟩:=h;rfl
 |.int _,_,_,_,_,h=>by simp only [Ty.cells,SV.denL,SV.den] at h;obtain ⟨v,us,rfl,rfl,rfl⟩:=h;rfl
 |.bool,_,_,_,_,h=>by simp only [Ty.cells,SV.denL,SV.den] at h;obtain ⟨v,us,rfl,rfl,rfl⟩:=h;rfl
 |.str,_,_,_,ho,h=>by simp only [Ty.cells,SV.denL,SV.den] at h;obtain ⟨v,us,rfl,rfl,rfl⟩:=h;exact ⟨rfl,ho⟩
 |.slice t,_,_,_,_,h=>by simp only [Ty.cells,SV.denL,SV.den] at h;obtain ⟨v,us,rfl,h,rfl⟩:=h;exact h
 |.prod a b,x,vs,hk,ho,h=>by
  simp only [Ty.known,Am] at hk;obtain ⟨v1,v2,rfl,h1,h2⟩:=q0w.1 h;exact ⟨v1,v2,rfl,a.cells_rel _ _ hk.1 ho.1 h1,b.cells_rel _ _ hk.2 ho.2 h2⟩
 |.unit,_,_,_,_,h=>by simpa [Ty.cells,SV.denL,Ty.rel] using h
 |.arr n t,xs,vs,hk,ho,h=>by
  replace hk:t.known=true:=hk;obtain ⟨hn,ho⟩:=ho;refine ⟨hn,?_⟩;simp only [Ty.cells] at h;rw [←hn] at h;clear hn;have key:∀ (ys:List t.den) (vs:List Value),(∀x∈ys,t.ok x)→SV.denL C ((List.range ys.length).flatMap fun i=>t.cells (ys.getD i t.dflt)) vs→∃vss:List (List Value),vs=vss.flatten∧vss.length=ys.length∧∀ (i:Nat) x us,ys[i]?=some x→vss[i]?=some us→t.rel C.I C.w x us:=by
   intro ys;induction ys with
   |nil=>intro vs _ h;exact ⟨[],by simpa [q0u] using h,rfl,fun i x us hx=>by simp at hx⟩
   |cons y ys ih=>
    intro vs ho h;rw [AM,BX,List.flatMap_cons,List.flatMap_map] at h;obtain ⟨v1,v2,rfl,h1,h2⟩:=q0w.1 h;obtain ⟨vss,rfl,hl,hr⟩:=ih v2 (fun x hx=>ho x (AN _ hx)) h2;refine ⟨v1 :: vss,rfl,by simp [hl],fun i x us hx hu=> ?_⟩
    cases i with
    |zero=>simp at hx hu;subst hx hu;exact t.cells_rel _ _ hk (ho _ (Bs ..)) h1
    |succ i=>exact hr i x us (by simpa using hx) (by simpa using hu)
  exact key xs vs ho h
 |.ptr t,x,vs,_,ho,h=>by
  cases x with
  |none=>
   simp only [Ty.cells,SV.denL,SV.den] at h;obtain ⟨v,us,rfl,rfl,rfl⟩:=h;exact .inl ⟨rfl,rfl⟩
  |some x=>
   simp only [Ty.cells,SV.denL,SV.den] at h;obtain ⟨v,us,rfl,⟨b,off,ws,rfl,hI,hr,hc⟩,rfl⟩:=h;exact .inr ⟨x,b,off,ws,rfl,by rw [AK],hI,hr,hc⟩
 |.clo f t,x,vs,hk,ho,h=>by
  simp only [Ty.cells,SV.denL,SV.den] at h;obtain ⟨v,us,rfl,⟨v1,v2,rfl,⟨u,ws,rfl,⟨zs,rfl,hz⟩,rfl⟩,rfl⟩,rfl⟩:=h;exact ⟨zs,rfl,t.cells_rel _ _ hk ho hz⟩
 |.clp f t,x,vs,hk,ho,h=>by
  simp only [Ty.cells,SV.denL,SV.den] at h;obtain ⟨v,us,rfl,⟨v1,v2,rfl,rfl,⟨u,ws,rfl,⟨b,off,zs,rfl,hI,hr,hc⟩,rfl⟩⟩,rfl⟩:=h;exact ⟨b,off,zs,by rw [AK],hI,hr,hc⟩
 |.mbs _,_,_,hk,_,_=>by cases hk

end Go.Sx
namespace Go.Sx
open Go
variable {P:Program} {AQ:Ex→List SV→List SObj→Prop} {k0:Nat} {k:List IT} {t:List SV} {H:List SObj}

theorem q3L[Ghost]{f:FuncId}{args:List SV}{ty:Ty}{xs:List ty.den}{d:Option Tmp}{td:List IT}(hp:VC P f args [] (RowK ty xs))(hb:SV.belL 0 args=true)(hargs:args=SV.renL (sig [] H.length) args)
 (h0:xs= []→SoundI P AQ ⟨k0,td,putT t d (.raw (.slice none 0 0)),H⟩)(h:SoundI P AQ ⟨k0,td,putT t d (.bld H.length ty xs.length),H++ [.row ty xs]⟩):CallI P AQ f args d ⟨k0,td,t,H⟩:=by
 refine ⟨hp.1,VCall.g ?_⟩;rw [hargs];refine VCall.fr (H0:=[]) [] (by simp) trivial hb rfl hp.2 ?_
 rintro o H' _ (⟨e,rfl,rfl⟩ | ⟨rfl,rfl⟩)
 · simp only [mgA,Cr,Ah];exact h0 e
 exact h
theorem q2l[Ghost](d h:Nat){T:TypeId}{ty:Ty}{x:ty.den}{td:List IT}(hp:plainT td=true)(hok:ty.ok x)(hH:H[h]?=some (.cells T (ty.cells x)))(hd:t[d]?=some (.ptr h 0))(hs:SoundI P AQ ⟨k0,td,t.set d (.iptr ty x 0),H.set h .dead⟩)(hkn:ty.known=true:=by rfl):
 SoundI P AQ ⟨k0,td,t,H⟩:=q0f (fun td' hr E r n C a h0 hden=>by
 have h1:=q0h hs hr;obtain ⟨b,vs,hb,hcell,hvs⟩:=hden.wd.obj h _ hH;have hown:OwnB C H b:=⟨h,_,hH,rfl,hb⟩;obtain ⟨hnI,hlt⟩:=hden.wd.own b hown;have hoff:∀b',OwnB C (H.set h .dead) b'→OwnB C H b'∧b'≠b:=by
  rintro b' ⟨i,o,ho,hl,hb'⟩;by_cases e:h=i
  · subst e;rw [Av (Af.1 hH).1] at ho;cases ho;simp [SObj.live] at hl
  rw [Ap e] at ho;refine ⟨⟨i,o,ho,hl,hb'⟩,fun e'=> ?_⟩;subst e';exact e (hden.wd.inj h i _ o b' hH ho rfl hl hb hb')
 let C':Cx:={C with I:=fun b'=>C.I b'∨b'=b}
 have he:Evo C C':=⟨Ag _,fun _ _=>rfl,fun b' hb'=>⟨.inl hb',rfl⟩,fun _ _ hm=>hm⟩;have hw:Wd C' (H.set h .dead):=by
  refine ⟨by simp [C',hden.wd.n],fun i o ho=> ?_,fun b' hb'=> ?_,fun i i' o o' b' h1 h2 h3 h4 h5 h6=> ?_,fun b' hb'=> ?_⟩
  · by_cases e:h=i
    · subst e;rw [Av (Af.1 hH).1] at ho;cases ho;trivial
    rw [Ap e] at ho;exact q0z he.I i rfl (fun _ _=>rfl) (q0n he) (hden.wd.obj i o ho)
  · obtain ⟨g1,g2⟩:=hoff b' hb';have:=hden.wd.own b' g1;exact ⟨fun hi=>hi.elim this.1 g2,this.2⟩
  · have key:∀ {i:Nat} {o:SObj},(H.set h .dead)[i]?=some o→o.live=true→H[i]?=some o:=fun {i o} ho hl=>by
     by_cases e:h=i
     · subst e;rw [Av (Af.1 hH).1] at ho;cases ho;simp [SObj.live] at hl
     rwa [Ap e] at ho
    exact hden.wd.inj i i' o o' b' (key h1 h3) (key h2 h4) h3 h4 h5 h6
  exact hb'.elim (hden.wd.imm b') fun e=>e▸hlt
 have hmk:∀n,H[0]?=some (.mark n)→(H.set h .dead)[0]?=some (.mark n):=fun n hn=>q3O hH rfl hn;have hx:Ext E.toEn C' (H.set h .dead):=by
  refine ⟨hden.ext.evo.trans he,hden.ext.size,hden.ext.os,hden.ext.tape,hden.ext.output,hden.ext.frame,fun b' hb'=> ?_,fun b' hb'=>hden.ext.ownNew b' (hoff b' hb').1,fun n h0 hn=>hmk n (hden.ext.keep0 n h0 hn)⟩;rcases hb' with hb'|rfl
  · exact hden.ext.immNew b' hb'
  exact .inr ⟨hden.ext.ownNew b' hown,q4j (C:=C) hden.wd hown⟩
 have hg:Ghost.inv E C' (H.set h .dead):=Ghost.same (C:=C) (C':=C') hden.wd rfl (fun b' hb'=>.inl hb') (fun b' (hb':C.I b'∨b'=b)=>hb'.elim .inl fun e=>.inr (by subst e;exact hown)) (fun b' hb'=>(hoff b' hb').1) (fun n _ hn=>hmk n hn) hden.ext.evo.n hden.defs.2
 refine h1 E r n C' a h0 ⟨hw,hx,⟨hden.defs.1,hg⟩,?_⟩;have ht:=q0n he hden.tmps;obtain ⟨v,hv,hdv⟩:=q1Y ht hd;rw [SV.den] at hdv;obtain ⟨_,b',hb',rfl⟩:=hdv;have e:b'=b:=by have:C.ρ h=some b':=hb';rw [hb] at this;exact (Option.some.inj this).symm
 subst e;have hi:(SV.iptr ty x 0).den C' (.pointer (some ⟨b',0,none⟩)):=by
  rw [SV.den];exact ⟨b',0,vs,rfl,.inr rfl,ty.cells_rel _ _ hkn hok (q0n he hvs),fun j u hj=>by rw [Ac];show C.w.cell? _=_;rw [q0m hcell];exact hj⟩
 have h9:=q2Y (i:=d) ht hi;have e9:a.tmps.toList.set d (.pointer (some ⟨b',0,none⟩))=a.tmps.toList:=by
  apply Br;intro j;by_cases ej:d=j
  · subst ej;rw [Av (Af.1 hv).1,hv]
  rw [Ap ej]
 rwa [e9] at h9) hp
theorem z1J[Ghost](d h i k:Nat){ty:Ty}{xs:List ty.den}{td:List IT}(hp:plainT td=true)(hH:H[h]?=some (.row ty xs))(hd:t[d]?=some (.rptr h ty i k))(hi:i<xs.length)(hlen:xs.length≤1125899906842624)(ho:frzObH h ty xs H)(hot:SV.frzObL h ty xs t)
 (hs:SoundI P AQ ⟨k0,td,(SV.frzL h ty xs t).set d (.iptr ty (xs.getD i ty.dflt) k),frzH h ty xs H⟩):SoundI P AQ ⟨k0,td,t,H⟩:=q0f (fun td' hr E r n C a h0 hden=>by
 obtain ⟨g1,g2⟩:=z5B hden.wd hden.ext hH hlen ho;have hdef:DefOk E (C.frz h) (frzH h ty xs H) a.defers:=⟨hden.defs.1,Ghost.same hden.wd rfl (fun _ h=>.inl h) (fun b hb=>orMap hb id fun hb=>⟨h,_,hH,rfl,hb⟩) (fun b hb=>(z6r hden.wd hH hb).1) (fun _ _ hn=>q8D hH hn) hden.ext.evo.n hden.defs.2⟩;have ht:=q1Z hden.wd hH hlen hot hden.tmps;refine q0h hs hr E r n (C.frz h) a h0 ⟨g1,g2,hdef,?_⟩;obtain ⟨v,hv,hdv⟩:=q1Y hden.tmps hd;rw [SV.den] at hdv;obtain ⟨_,b,hb,rfl⟩:=hdv;rcases hden.wd.obj h _ hH with ⟨_,h2⟩ | ⟨b',arr,T,fz,hb',hcell,hfz,hsz,hrow⟩
 · subst h2;simp at hi
 rw [hb] at hb';cases hb';obtain ⟨us,q1,q2⟩:=hrow i (xs.getD i ty.dflt) (by rw [Aa,Ae hi];rfl)
 have hx:(SV.iptr ty (xs.getD i ty.dflt) k).den (C.frz h) (.pointer (some ⟨b,i*ty.size+k,none⟩)):=by
  rw [SV.den];refine ⟨b,i*ty.size,us,rfl,.inr hb,Ty.rel_keep (q0J C h).I _ _ _ q1,fun j u hj=> ?_⟩;have:=q2 j u hj;rw [Ac] at this;exact this
 have h9:=q2Y (i:=d) ht hx;have e9:a.tmps.toList.set d (.pointer (some ⟨b,i*ty.size+k,none⟩))=a.tmps.toList:=by
  apply Br;intro j;by_cases ej:d=j
  · subst ej;rw [Av (Af.1 hv).1,hv]
  rw [Ap ej]
 rwa [e9] at h9) hp
end Go.Sx
namespace Go.Sx
open Go

variable {P:Program} {AQ:Ex→List SV→List SObj→Prop} {k0:Nat} {k:List IT} {t:List SV} {H:List SObj}

end Go.Sx
namespace Go.Sx
open Go
variable [Ghost] {P:Program} {AQ:Ex→List SV→List SObj→Prop} {k0:Nat} {k:List IT} {t:List SV} {H:List SObj}

theorem z3N{G:List Nat}{f:FuncId}{args:List SV}{ty:Ty}{xs:List ty.den}{d:Option Tmp}{td:List IT}(hp:VC P f args [] (RowK ty xs))(hb:SV.belL 0 args=true)(hargs:args=SV.renL (sig [] H.length) args)(hG:SameG G H (H++ [.row ty xs]))
 (h0:xs= []→SoundI P AQ ⟨k0,td,putT t d (.raw (.slice none 0 0)),H⟩)(h:SoundI P AQ ⟨k0,td,putT t d (.bld H.length ty xs.length),H++ [.row ty xs]⟩):CallR P AQ G f args d ⟨k0,td,t,H⟩:=by
 refine ⟨hp.1,VCall.g ?_⟩;rw [hargs];refine VCall.fr (H0:=[]) [] (by simp) trivial hb rfl hp.2 ?_
 rintro o H' _ (⟨e,rfl,rfl⟩ | ⟨rfl,rfl⟩)
 · simp only [mgA,Cr,Ah];exact ⟨fun _=>SameG.refl _ _,h0 e⟩
 exact ⟨fun _=>hG,h⟩
theorem VC.arg{f:FuncId}{args args':List SV}{K:Out→List SObj→Prop}(h:VC P f args H K)(hl:SV.leVL args' args):VC P f args' H K:=
 ⟨h.1,fun C vs hw ht hv=>h.2 C vs hw ht (q4x hl hv)⟩
theorem j4A{ty:Ty}{xs:List ty.den}{H':List SObj}{h n m:Nat}(hH:H'[h]?=some (.row ty xs))(hn:n=m):Weak 0 (fun o' H''=>o'= .ret (.bld 0 ty m)∧H''= [.row ty xs]) (.ret (.bld h ty n)) H':=by
 subst hn;exact ⟨fun _=>h,.bld 0 ty n,.bld 0 ty n,[.row ty xs],⟨⟨rfl,trivial⟩,⟨hH,trivial⟩,rfl,rfl,rfl,rfl,Ai _,fun _ h0=>absurd h0 (A5 0)⟩,.inl (.inl rfl),⟨rfl,rfl⟩⟩
end Go.Sx
namespace Go.Sx
open Go

variable {P:Program}
def PCE(P:Program)(f:FuncId)(args:List SV)(p:SV→Prop):Prop:=enters P f=true∧∀ (H:List SObj) (K:Out→List SObj→Prop),(∀s,p s→K (.ret s) H)→VCall P f args H K
theorem PCE.mono{f:FuncId}{args:List SV}{p q:SV→Prop}(h:PCE P f args p)(hq:∀s,p s→q s):PCE P f args q:=⟨h.1,fun H K hk=>h.2 H K fun s hs=>hk s (hq s hs)⟩
section
variable [Ghost] {AQ:Ex→List SV→List SObj→Prop}
end

section
variable {AQ:Ex→List SV→List SObj→Prop}
theorem q3x[Ghost]{b:Nat}{t:Ty}{x:t.den}{ag:Option Nat}{s:SV}{d:Option Tmp}{m:IM}(hm:(b,(⟨t,x⟩:Sigma Ty.den))∈datList)(hs:SV.ofT ag t x=some s)(ha:ag=none∨ag=some t.size)(hk:SoundI P AQ {m with tmps:=putT m.tmps d s}):ZldI P AQ ag b 0 d m:=by
 rintro E C _ ⟨⟨ht,_⟩,_⟩;exact ⟨s,.inr ⟨t,x,(ht.dat _ hm).2,hs,ha⟩,hk⟩
theorem z9x[Ghost]{b i n:Nat}{e:Ty}{xs:List e.den}{s:SV}{d:Option Tmp}{m:IM}(hm:(b,(⟨.arr n e,xs⟩:Sigma Ty.den))∈datList)(he:e.size=1)(hi:i<n)(hs:e.cells (xs.getD i e.dflt)= [s])(hk:SoundI P AQ {m with tmps:=putT m.tmps d s}):ZldI P AQ none b i d m:=by
 rintro E C _ ⟨⟨ht,_⟩,_⟩;have:=(ht.dat _ hm).2.elem he hi;rw [Ac] at this;exact ⟨s,.inr ⟨e,_,this,by simp only [SV.ofT];rw [hs],.inl rfl⟩,hk⟩
theorem z7V[Ghost]{b:Nat}{t:Ty}{x:t.den}{ag:Option Nat}{s:SV}{d:Option Tmp}{m:IM}(hm:(b,(⟨t,x⟩:Sigma Ty.den))∈datList)(hs:SV.ofT ag t x=some s)(ha:ag=none∨ag=some t.size)(hk:SoundI P AQ {m with tmps:=putT m.tmps d s}):ZldF P AQ ag b 0 d m:=
 ⟨s,fun _ _ _ _ hi=>.inr ⟨t,x,(hi.1.tab.dat _ hm).2,hs,ha⟩,hk⟩
end
end Go.Sx
namespace Go.Proofs.YtikapabgggphpaaGreatDoor
open Go Go.Sx Go.Proofs
set_option maxRecDepth 100000
set_option maxHeartbeats 40000000
theorem q2c{α:Type}{l:List α}{i:Nat}{x d:α}(h:i<l.length):(l.set i x).getD i d=x:=by
 rw [Aa,Av h];rfl
theorem fdivW(x:Int)(n:Nat)(hn:0<n):x.fdiv (n:Int)=x / (n:Int):=AV _ (by omega)
theorem sg0K{x:Int}(h:inW x):xorK .i64 (xorK .i64 (rotW 7 x) (rotW 18 x)) (x.fdiv (2^ min 3 64))=sg0 x:=by
 have e:x.fdiv (2^ min 3 64)=x / 8:=fdivW x 8 (by decide)
 have h1:=q0D (n:=7) (by decide) (by decide) h
 have h2:=q0D (n:=18) (by decide) (by decide) h
 rw [e,xor64 h1 h2,xor64 (q0Q h1 h2) (by unfold inW at*;omega)]
 rfl
theorem sg1K{x:Int}(h:inW x):xorK .i64 (xorK .i64 (rotW 17 x) (rotW 19 x)) (x.fdiv (2^ min 10 64))=sg1 x:=by
 have e:x.fdiv (2^ min 10 64)=x / 1024:=fdivW x 1024 (by decide)
 have h1:=q0D (n:=17) (by decide) (by decide) h
 have h2:=q0D (n:=19) (by decide) (by decide) h
 rw [e,xor64 h1 h2,xor64 (q0Q h1 h2) (by unfold inW at*;omega)]
 rfl
theorem schK{x y u v:Int}(hx:inW x)(hy:inW y)(hu:inW u)(hv:inW v):(IntKind.i64.wrap (IntKind.i64.wrap (IntKind.i64.wrap (xorK .i64 (xorK .i64 (rotW 17 y) (rotW 19 y)) (y.fdiv (2^ min 10 64))+u)+xorK .i64 (xorK .i64 (rotW 7 x) (rotW 18 x)) (x.fdiv (2^ min 3 64)))+v)).tmod 4294967296=(sg1 y+u+sg0 x+v)%W32:=by
 have h1:=j4Z hx;have h2:=j4d hy;rw [sg0K hx,sg1K hy];unfold inW at*;rw [wrapi (n:=sg1 y+u) (by omega),wrapi (n:=sg1 y+u+sg0 x) (by omega),wrapi (n:=sg1 y+u+sg0 x+v) (by omega),As (by omega)]
theorem bs1K{x:Int}(h:inW x):xorK .i64 (xorK .i64 (rotW 6 x) (rotW 11 x)) (rotW 25 x)=bs1 x:=by
 have h1:=q0D (n:=6) (by decide) (by decide) h
 have h2:=q0D (n:=11) (by decide) (by decide) h
 have h3:=q0D (n:=25) (by decide) (by decide) h
 rw [xor64 h1 h2,xor64 (q0Q h1 h2) h3];rfl
theorem bs0K{x:Int}(h:inW x):xorK .i64 (xorK .i64 (rotW 2 x) (rotW 13 x)) (rotW 22 x)=bs0 x:=by
 have h1:=q0D (n:=2) (by decide) (by decide) h
 have h2:=q0D (n:=13) (by decide) (by decide) h
 have h3:=q0D (n:=22) (by decide) (by decide) h
 rw [xor64 h1 h2,xor64 (q0Q h1 h2) h3];rfl
theorem j3O{k w:Int}{v:List Int}(hv:inWs v)(hk:inW k)(hw:inW w):0≤t1S k w v∧t1S k w v<5*W32:=by
 have h1:=j0I (q0c hv 4 (by decide))
 have h2:=j0k (q0c hv 4 (by decide)) (q0c hv 5 (by decide)) (q0c hv 6 (by decide))
 have h3:=q0c hv 7 (by decide)
 unfold t1S inW W32 at*;omega
theorem j4s{v:List Int}(hv:inWs v):0≤t2S v∧t2S v<2*W32:=by
 have h1:=j0F (q0c hv 0 (by decide))
 have h2:=z7q (q0c hv 0 (by decide)) (q0c hv 1 (by decide)) (q0c hv 2 (by decide))
 unfold t2S inW W32 at*;omega
theorem t1K{k w:Int}{v:List Int}(hv:inWs v)(hk:inW k)(hw:inW w):IntKind.i64.wrap (IntKind.i64.wrap (IntKind.i64.wrap (IntKind.i64.wrap (v.getD 7 0+xorK .i64 (xorK .i64 (rotW 6 (v.getD 4 0)) (rotW 11 (v.getD 4 0))) (rotW 25 (v.getD 4 0)))+chW (v.getD 4 0) (v.getD 5 0) (v.getD 6 0))+k)+w)=t1S k w v:=by
 have h1:=j0I (q0c hv 4 (by decide))
 have h2:=j0k (q0c hv 4 (by decide)) (q0c hv 5 (by decide)) (q0c hv 6 (by decide))
 have h3:=q0c hv 7 (by decide)
 rw [bs1K (q0c hv 4 (by decide))]
 unfold t1S;generalize bs1 (v.getD 4 0)=x at*;generalize chW (v.getD 4 0) (v.getD 5 0) (v.getD 6 0)=y at*;unfold inW at*;rw [wrapi (n:=v.getD 7 0+x) (by omega),wrapi (n:=v.getD 7 0+x+y) (by omega),wrapi (n:=v.getD 7 0+x+y+k) (by omega),wrapi (by omega)]
theorem t2K{v:List Int}(hv:inWs v):IntKind.i64.wrap (xorK .i64 (xorK .i64 (rotW 2 (v.getD 0 0)) (rotW 13 (v.getD 0 0))) (rotW 22 (v.getD 0 0))+majW (v.getD 0 0) (v.getD 1 0) (v.getD 2 0))=t2S v:=by
 have h1:=j0F (q0c hv 0 (by decide))
 have h2:=z7q (q0c hv 0 (by decide)) (q0c hv 1 (by decide)) (q0c hv 2 (by decide))
 rw [bs0K (q0c hv 0 (by decide))]
 unfold t2S;unfold inW at*;rw [wrapi (by omega)]
theorem modK{x:Int}(h0:0≤x)(h1:x<100*W32):(IntKind.i64.wrap x).tmod 4294967296=x%W32:=by
 unfold W32 at*;rw [wrapi (by omega),As h0]
theorem q3H(b:List UInt8)(h:List Int)(n:Nat):(blkP b h n).length=8:=by simp [blkP]
theorem q3S(b:List UInt8)(h:List Int){i:Nat}(hi:i<8):(blkP b h i).getD i 0=h.getD i 0:=by
 simp [blkP,Aa,hi]
theorem q3G(b:List UInt8)(h:List Int){i:Nat}(hi:i<8):(blkP b h i).set i ((h.getD i 0+ (rnds b h 64).getD i 0)%W32)=blkP b h (i+1):=by
 apply Au
 · simp [blkP]
 intro j h1 h2;rw [A4];simp only [blkP,AC,Ax];split
 · subst_vars;rw [if_pos (by omega)]
 rename_i hne;by_cases hj:j<i
 · rw [if_pos hj,if_pos (by omega)]
 rw [if_neg hj,if_neg (by omega)]
theorem q2M(b:List UInt8){h:List Int}(hl:h.length=8):blkP b h 0=h:=by
 apply Au
 · simp [blkP,hl]
 intro j h1 h2;simp only [blkP,AC,Ax];rw [if_neg (Bp _),Aa,Ae h2];rfl
theorem q3I(b:List UInt8)(h:List Int):blkP b h 8=blkS b h:=by
 apply Au
 · simp [blkP,blkS]
 intro j h1 h2;simp [blkP] at h1;simp only [blkP,blkS,AC,Ax];rw [if_pos h1]
theorem z9R(b:List UInt8)(h:List Int)(hb:b.length=64)(hh:inWs h):PC Tryz.prog 146 [.dat (.arr 8 (.int .i64)) h,.isl .u8 b] (.dat (.arr 8 (.int .i64)) (blkS b h)):=by
 refine q0p rfl rfl ?_;refine rQ fi146 ?_;refine q0d (ι:=Nat) (fun t=>[(6,rI t)]) (fun t=>[.row (.int .i64) h,.row (.int .i64) (List.replicate 8 0),.row (.int .i64) (wL b t)]) (fun t=>16-t) (fun t=>t≤16) 0 (Ai _) (by rw [q5m];rfl) ?_ ?_
 · with_reducible refine sxE ?_;trivial
 intro t ht;have hwr:=wsx t (by omega)
 have hwl:=q3g b t;by_cases hlt:t<16
 · refine gQ ?_;refine ⟨fun _=> ?_,fun h=>absurd hlt (by omega)⟩
   refine q0d (ι:=Nat) (fun i=>[(7,rI i)]) (fun i=>[.row (.int .i64) h,.row (.int .i64) (List.replicate 8 0),.row (.int .i64) ((wL b t).set t (wdP b t i))]) (fun i=>4-i) (fun i=>i≤4) 0 (Ai _) ?_ ?_ ?_
   · rw [show wdP b t 0=0 from rfl,j0U b (by omega)];rfl
   · with_reducible refine sxE ?_;trivial
   intro i hi;have hget:((wL b t).set t (wdP b t i)).getD t 0=wdP b t i:=q2c (by omega)
   have w1:IntKind.i64.wrap (4* (t:Int))=((4*t:Nat):Int):=by rw [wrapi (by omega)];omega
   have hwi:=wsx i (by omega)
   have hls:((wL b t).set t (wdP b t i)).length=64:=by rw [Bb];exact hwl
   by_cases h4:i<4
   · have w2:IntKind.i64.wrap (((4*t:Nat):Int)+ (i:Int))=((4*t+i:Nat):Int):=by rw [wrapi (by omega)];omega
     have hp:=(z6A b t i hi).1;have hby:=j0J b (4*t+i);have w3:IntKind.i64.wrap (256*wdP b t i)=256*wdP b t i:=by rw [wrapi (by omega)]
     refine gy8 w1 w2 hget hls Ac Ac Ac Ac ?_;refine ⟨fun _=>⟨⟨by omega,by omega⟩,by omega,⟨by omega,by omega⟩,⟨by omega,by omega⟩,by omega,i+1,h4,by dsimp only;omega,?_,?_⟩,fun h=>absurd h4 (by omega)⟩
     · have e:IntKind.i64.wrap (IntKind.i64.wrap (256*wdP b t i)+IntKind.i64.wrap (byI b (4*t+i)))=wdP b t (i+1):=by
        rw [w3,wrapi (n:=byI b (4*t+i)) (by omega),wrapi (by omega)];rfl
       have hg2:((wL b t).set t (wdP b t i)).getD t (Ty.dflt (.int .i64))=wdP b t i:=hget;rw [hg2,Cq];show _= [_,_,SObj.row (.int .i64) ((wL b t).set t (wdP b t (i+1)))];rw [←e];rfl
     with_reducible refine sx1 hwi ?_;trivial
   refine gy2 hls Ac ?_;obtain rfl:i=4:=by omega
   refine ⟨fun h=>absurd h (by omega),fun _=>⟨t+1,by show t+1≤16;omega,by dsimp only;omega,?_,?_⟩⟩
   · rw [←q9Z hlt,q3h b (by omega)]
   with_reducible refine sx1 hwr ?_;trivial
 obtain rfl:t=16:=by omega
 refine gQ ?_;refine ⟨fun h=>absurd h (by omega),fun _=> ?_⟩
 refine q0d (ι:=Nat) (fun t=>[(8,rI t)]) (fun t=>[.row (.int .i64) h,.row (.int .i64) (List.replicate 8 0),.row (.int .i64) (wL b t)]) (fun t=>64-t) (fun t=>16≤t∧t≤64) 16 (by decide) rfl ?_ ?_
 · with_reducible refine sxE ?_
   rfl
 intro t ht;have hwl:=q3g b t;have hwr:=wsx t (by omega)
 by_cases hlt:t<64
 · have e15:IntKind.i64.wrap ((t:Int) -15)=((t-15:Nat):Int):=by rw [wrapi (by omega)];omega
   have e2:IntKind.i64.wrap ((t:Int) -2)=((t-2:Nat):Int):=by rw [wrapi (by omega)];omega
   have e7:IntKind.i64.wrap ((t:Int) -7)=((t-7:Nat):Int):=by rw [wrapi (by omega)];omega
   have e16:IntKind.i64.wrap ((t:Int) -16)=((t-16:Nat):Int):=by rw [wrapi (by omega)];omega
   have g15:=q0P b (t:=t) (j:=t-15) (by omega) (by omega)
   have g2:=q0P b (t:=t) (j:=t-2) (by omega) (by omega)
   have g7:=q0P b (t:=t) (j:=t-7) (by omega) (by omega)
   have g16:=q0P b (t:=t) (j:=t-16) (by omega) (by omega)
   refine gyd10 e15 e2 e7 e16 g15 g2 g7 g16 hwl Ac ?_;have i15:=q1V b (t-15);have i2:=q1V b (t-2);have i7:=q1V b (t-7);have i16:=q1V b (t-16);refine ⟨fun _=>⟨⟨by omega,by omega⟩,by omega,⟨by omega,by omega⟩,by omega,q0a (q2A _ 7 (by decide) (by decide) i15) ?_⟩,fun h=>absurd hlt (by omega)⟩
   refine gQ ?_;refine cQ (q2A _ 18 (by decide) (by decide) i15) ?_
   refine cQ (q2A _ 17 (by decide) (by decide) i2) ?_
   refine q0a (q2A _ 19 (by decide) (by decide) i2) ?_
   refine gyd10 e15 e2 e7 e16 g15 g2 g7 g16 hwl Ac ?_;refine ⟨⟨by omega,by omega⟩,by omega,⟨by omega,by omega⟩,by omega,by decide,⟨by omega,by omega⟩,by omega,t+1,⟨by omega,hlt⟩,by dsimp only;omega,?_,?_⟩
   · rw [schK i15 i2 i7 i16,←z0J (by omega),q3h b hlt]
   with_reducible refine sx1 hwr ?_;trivial
 obtain rfl:t=64:=by omega
 refine gQ ?_;refine ⟨fun h=>absurd h (by omega),fun _=>⟨by omega,?_⟩⟩
 refine q0d (ι:=Nat) (fun t=>[(14,rI t)]) (fun t=>[.row (.int .i64) h,.row (.int .i64) (List.replicate 8 0),.row (.int .i64) (wL b 64),.row (.int .i64) (rnds b h t)]) (fun t=>64-t) (fun t=>t≤64) 0 (Ai _) ?_ ?_ ?_
 · have e:List.take 8 h=h:=Ab (by omega)
   rw [e,hh.1];simp;rfl
 · with_reducible refine sxE ?_;trivial
 intro t ht;have hwr:=wsx t (by omega)
 by_cases hlt:t<64
 · have hv:=q1f (b:=b) hh t;have hl:=hv.1;generalize hvv:rnds b h t=v at*;have i0:=q0c hv 0 (by decide)
   have i1:=q0c hv 1 (by decide)
   have i2:=q0c hv 2 (by decide)
   have i3:=q0c hv 3 (by decide)
   have i4:=q0c hv 4 (by decide)
   have i5:=q0c hv 5 (by decide)
   have i6:=q0c hv 6 (by decide)
   have i7:=q0c hv 7 (by decide)
   refine gyd3 hl Ac Ac ?_;refine ⟨fun _=> ?_,fun h=>absurd hlt (by omega)⟩
   refine cR (q2A _ 6 (by decide) (by decide) i4) ?_
   refine cR (q2A _ 11 (by decide) (by decide) i4) ?_
   refine q0e (q2A _ 25 (by decide) (by decide) i4) ?_
   refine gyd3 hl Ac Ac ?_;refine cR (q2A _ 2 (by decide) (by decide) i0) ?_
   refine cR (q2A _ 13 (by decide) (by decide) i0) ?_
   refine q0e (q2A _ 22 (by decide) (by decide) i0) ?_
   refine gyd3 hl Ac Ac ?_;refine z7V (t:=.slice (.int .i64)) (x:=dat_ref04_constants) (by unfold datList;repeat (first|exact .head _|apply List.Mem.tail)) rfl (.inl rfl) ?_
   refine gyd3 hl Ac Ac ?_;have hkl:dat_ref04_constants.length=64:=rfl;refine ⟨⟨by omega,by omega⟩,⟨by omega,by omega⟩,by omega,q0e (j4E _ _ _ i4 i5 i6) ?_⟩
   refine gyd3 hl Ac Ac ?_;refine cyd3 (j4O _ _ _ i0 i1 i2) hl Ac Ac ?_;refine ⟨by decide,by decide,t+1,hlt,by dsimp only;omega,?_,?_⟩
   · have hk:=j4p t hlt;have hw:=q1V b t;have hd:List.drop 8 v= []:=AW (by omega)
     have u1:=j3O hv hk hw;have u2:=j4s hv;dsimp only;rw [show rnds b h (t+1)=rnd (kS t) (wS b t) (rnds b h t) from rfl,hvv,q0P b hlt hlt,show dat_ref04_constants.getD t 0=kS t from rfl,t1K hv hk hw,t2K hv,hd,modK (by omega) (by unfold W32 at*;omega),modK (by omega) (by unfold W32 at*;omega)]
     rfl
   with_reducible refine sx1 hwr ?_;trivial
 obtain rfl:t=64:=by omega
 refine gQ ?_;refine ⟨fun h=>absurd h (by omega),fun _=> ?_⟩
 refine q0d (ι:=Nat) (fun i=>[(19,rI i)]) (fun i=>[.row (.int .i64) (blkP b h i),.row (.int .i64) (List.replicate 8 0),.row (.int .i64) (wL b 64),.row (.int .i64) (rnds b h 64)]) (fun t=>8-t) (fun t=>t≤8) 0 (Ai _) ?_ ?_ ?_
 · rw [q2M b hh.1];rfl
 · with_reducible refine sxE ?_;trivial
 intro i hi;have hwr:=wsx i (by omega)
 have hv:=q1f (b:=b) hh 64;have hl:=hv.1;have hbl:=q3H b h i;by_cases hlt:i<8
 · have hbg:=q3S b h hlt;refine gyd3 hl hbl Ac ?_;have hx:=q0c hh i hlt;have hy:=q0c hv i hlt;refine ⟨fun _=>⟨⟨by omega,by omega⟩,by omega,⟨by omega,by omega⟩,by omega,by decide,⟨by omega,by omega⟩,by omega,i+1,hlt,by dsimp only;omega,?_,?_⟩,fun h=>absurd hlt (by omega)⟩
   · dsimp only;rw [hbg,modK (by unfold inW at*;omega) (by unfold inW W32 at*;omega),q3G b h hlt]
   with_reducible refine sx1 hwr ?_;trivial
 obtain rfl:i=8:=by omega
 refine gyd3 hl hbl Ac ?_;refine ⟨fun h=>absurd h (by omega),fun _=> ?_⟩
 have e:List.take 8 (blkP b h 8)++List.drop (List.take 8 (blkP b h 8)).length [(0:Int),0,0,0,0,0,0,0]=blkS b h:=by
  rw [Ab (by omega),hbl,q3I]
  simp
 have el:(blkS b h).length=8:=by simp [blkS]
 rw [e,if_pos el];exact ⟨_,rfl,rfl⟩
end Go.Proofs.YtikapabgggphpaaGreatDoor
