/- SHA-256: words, and the reference's functions on them. -/
import Derived.Test.YtikapabgggphpaaGreatDoorP16
import Derived.Test.YtikapabgggphpaaGreatDoorP13
import Derived.Below
import Derived.Deep.Draws
import Derived.Sort.Grow
import Derived.Test.YtikapabgggphpaaGreatDoorP12
set_option linter.all false
namespace Go.Proofs.YtikapabgggphpaaGreatDoor
open Go Go.Sx Go.Proofs
set_option maxRecDepth 100000
set_option maxHeartbeats 4000000
abbrev inW (x:Int):Prop:=0≤x∧x<4294967296
def xorW (a b:Int):Int:=((a.toNat^^^ b.toNat:Nat):Int)
def andW (a b:Int):Int:=((a.toNat&&& b.toNat:Nat):Int)
def rotW (n:Nat) (x:Int):Int:=x / 2^ n+x*2^ (32-n)%4294967296
def chW (e f g:Int):Int:=xorW (andW e f) (andW (4294967295-e) g)
def majW (a b c:Int):Int:=xorW (xorW (andW a b) (andW a c)) (andW b c)
theorem q6b {a b:Int} (ha:inW a) (hb:inW b):inW (xorW a b):=by
 have:a.toNat^^^ b.toNat<2^ 32:=Nat.xor_lt_two_pow (by omega) (by omega)
 unfold xorW
 omega
theorem q2X {a b:Int} (ha:inW a) (_:inW b):inW (andW a b):=by
 have:a.toNat&&& b.toNat≤a.toNat:=Nat.and_le_left
 unfold andW
 omega
theorem q2O {n:Nat} {x:Int} (h1:1≤n) (h2:n≤31) (hx:inW x):inW (rotW n x):=by
 obtain ⟨x,rfl⟩:∃m:Nat,x=m:=⟨x.toNat,by omega⟩
 unfold rotW
 have hx':x<2^ n*2^ (32-n):=by rw [←Nat.pow_add,show n+ (32-n)=32 by omega];omega
 have e1:((x:Int) / 2^ n)=((x / 2^ n:Nat):Int):=by simp
 have e2:((x:Int)*2^ (32-n)%4294967296)=((x*2^ (32-n)%4294967296:Nat):Int):=by simp
 rw [e1,e2]
 have h3:x / 2^ n<2^ (32-n):=Nat.div_lt_of_lt_mul hx'
 have h4:x*2^ (32-n)%4294967296=(x%2^ n)*2^ (32-n):=by
  have:(4294967296:Nat)=2^ n*2^ (32-n):=by rw [←Nat.pow_add,show n+ (32-n)=32 by omega]
  rw [this,Nat.mul_mod_mul_right]
 have h5:x%2^ n<2^ n:=Nat.mod_lt _ (Nat.two_pow_pos n)
 have h6:(x%2^ n+1)*2^ (32-n)≤2^ n*2^ (32-n):=Nat.mul_le_mul_right _ h5
 rw [←Nat.pow_add,show n+ (32-n)=32 by omega,Nat.add_mul] at h6
 rw [h4]
 generalize x / 2^ n=u at*
 generalize x%2^ n*2^ (32-n)=v at*
 generalize 2^ (32-n)=w at*
 clear e1 e2 h4 h5 hx'
 omega
theorem z7w {k:IntKind} {a b:Int} (hk:32≤k.bits) (ha:inW a) (hb:inW b):((BitVec.ofInt k.bits a^^^ BitVec.ofInt k.bits b).toNat:Int)=xorW a b:=by
 obtain ⟨a,rfl⟩:∃m:Nat,a=m:=⟨a.toNat,by omega⟩
 obtain ⟨b,rfl⟩:∃m:Nat,b=m:=⟨b.toNat,by omega⟩
 have hp:2^ 32≤2^ k.bits:=Nat.pow_le_pow_right (by decide) hk
 unfold xorW
 rw [BitVec.toNat_xor,BitVec.ofInt_natCast,BitVec.ofInt_natCast,BitVec.toNat_ofNat,BitVec.toNat_ofNat,Nat.mod_eq_of_lt (by omega),Nat.mod_eq_of_lt (by omega)]
 rfl
theorem z8B {k:IntKind} {a b:Int} (hk:32≤k.bits) (ha:inW a) (hb:inW b):((BitVec.ofInt k.bits a&&& BitVec.ofInt k.bits b).toNat:Int)=andW a b:=by
 obtain ⟨a,rfl⟩:∃m:Nat,a=m:=⟨a.toNat,by omega⟩
 obtain ⟨b,rfl⟩:∃m:Nat,b=m:=⟨b.toNat,by omega⟩
 have hp:2^ 32≤2^ k.bits:=Nat.pow_le_pow_right (by decide) hk
 unfold andW
 rw [BitVec.toNat_and,BitVec.ofInt_natCast,BitVec.ofInt_natCast,BitVec.toNat_ofNat,BitVec.toNat_ofNat,Nat.mod_eq_of_lt (by omega),Nat.mod_eq_of_lt (by omega)]
 rfl
theorem w32 {a:Int} (ha:inW a):IntKind.u32.wrap a=a:=by
 have h:IntKind.u32.wrap a=a%4294967296:=rfl
 rw [h];omega
theorem xor32 {a b:Int} (ha:inW a) (hb:inW b):xorK .u32 a b=xorW a b:=by unfold xorK;rw [z7w (by decide) ha hb,w32 (q6b ha hb)]
theorem and32 {a b:Int} (ha:inW a) (hb:inW b):andK .u32 a b=andW a b:=by unfold andK;rw [z8B (by decide) ha hb,w32 (q2X ha hb)]

abbrev W32:Int:=4294967296
def byI (b:List UInt8) (j:Nat):Int:=((b.getD j 0).toNat:Int)
theorem j3d (b:List UInt8) (j:Nat):0≤byI b j∧byI b j<256:=by
 have:=(b.getD j 0).toNat_lt
 unfold byI;omega
def wdP (b:List UInt8) (t:Nat):Nat→Int
 |0=>0
 |i+1=>256*wdP b t i+byI b (4*t+i)
theorem j0j (b:List UInt8) (t:Nat):∀i,i≤4→inW (wdP b t i)∧wdP b t i<256^ i
 |0,_=>by simp [wdP,inW]
 |i+1,hi=>by
  have:=j0j b t i (by omega)
  have hb:=j3d b (4*t+i)
  have h3:i=0∨i=1∨i=2∨i=3:=by omega
  rcases h3 with rfl|rfl|rfl|rfl<;> (simp only [wdP] at*;simp at*;omega)
def sg0 (x:Int):Int:=xorW (xorW (rotW 7 x) (rotW 18 x)) (x / 8)
def sg1 (y:Int):Int:=xorW (xorW (rotW 17 y) (rotW 19 y)) (y / 1024)
def wS (b:List UInt8) (t:Nat):Int:=if h:t<16 then wdP b t 4 else (sg1 (wS b (t-2))+wS b (t-7)+sg0 (wS b (t-15))+wS b (t-16))%W32
termination_by t
theorem z0T {b:List UInt8} {t:Nat} (h:t<16):wS b t=wdP b t 4:=by rw [wS,dif_pos h]
theorem z0x {b:List UInt8} {t:Nat} (h:16≤t):wS b t=(sg1 (wS b (t-2))+wS b (t-7)+sg0 (wS b (t-15))+wS b (t-16))%W32:=by rw [wS,dif_neg (by omega)]
theorem q2p (b:List UInt8) (t:Nat):inW (wS b t):=by
 rcases Nat.lt_or_ge t 16 with h|h
 · rw [z0T h];exact (j0j b t 4 (Nat.le_refl _)).1
 rw [z0x h];unfold inW W32;omega
def wL (b:List UInt8) (t:Nat):List Int:=(List.range 64).map fun j=>if j<t then wS b j else 0
theorem q3C (b:List UInt8) (t:Nat):(wL b t).length=64:=by simp [wL]
theorem q0T (b:List UInt8) {t j:Nat} (h:j<t) (h2:j<64):(wL b t).getD j 0=wS b j:=by
 simp [wL,List.getD_eq_getElem?_getD,h2,h]
theorem q3D (b:List UInt8) {t:Nat} (h:t<64):(wL b t).set t (wS b t)=wL b (t+1):=by
 apply List.ext_getElem
 · simp [wL]
 intro j h1 h2
 simp [wL] at h1 h2
 rw [List.getElem_set]
 simp only [wL,List.getElem_map,List.getElem_range]
 split
 · subst_vars;rw [if_pos (by omega)]
 rename_i hne
 by_cases hj:j<t
 · rw [if_pos hj,if_pos (by omega)]
 rw [if_neg hj,if_neg (by omega)]
theorem q6Z (b:List UInt8):wL b 0=List.replicate 64 0:=by
 unfold wL
 rw [List.eq_replicate_iff]
 refine ⟨by rw [List.length_map,List.length_range],fun x hx=> ?_⟩
 obtain ⟨j,_,rfl⟩:=List.mem_map.1 hx
 exact if_neg (Nat.not_lt_zero _)
def kS (t:Nat):Int:=dat_ref04_constants.getD t 0
def bs1 (e:Int):Int:=xorW (xorW (rotW 6 e) (rotW 11 e)) (rotW 25 e)
def bs0 (a:Int):Int:=xorW (xorW (rotW 2 a) (rotW 13 a)) (rotW 22 a)
def t1S (k w:Int) (v:List Int):Int:=v.getD 7 0+bs1 (v.getD 4 0)+chW (v.getD 4 0) (v.getD 5 0) (v.getD 6 0)+k+w
def t2S (v:List Int):Int:=bs0 (v.getD 0 0)+majW (v.getD 0 0) (v.getD 1 0) (v.getD 2 0)
def rnd (k w:Int) (v:List Int):List Int:=
 [(t1S k w v+t2S v)%W32,v.getD 0 0,v.getD 1 0,v.getD 2 0,(v.getD 3 0+t1S k w v)%W32,v.getD 4 0,v.getD 5 0,v.getD 6 0]
def rnds (b:List UInt8) (h:List Int):Nat→List Int
 |0=>h
 |t+1=>rnd (kS t) (wS b t) (rnds b h t)
abbrev inWs (v:List Int):Prop:=v.length=8∧∀x∈v,inW x
theorem q0g {v:List Int} (h:inWs v) (i:Nat) (hi:i<8):inW (v.getD i 0):=by
 rw [List.getD_eq_getElem?_getD,List.getElem?_eq_getElem (by omega)]
 exact h.2 _ (List.getElem_mem _)
theorem j3Z {k w:Int} {v:List Int} (h:inWs v):inWs (rnd k w v):=by
 refine ⟨rfl,fun x hx=> ?_⟩
 have hm:∀y:Int,inW (y%W32):=fun y=>by unfold inW W32;omega
 simp only [rnd,List.mem_cons,List.not_mem_nil,or_false] at hx
 rcases hx with rfl|rfl|rfl|rfl|rfl|rfl|rfl|rfl
 · exact hm _
 · exact q0g h 0 (by decide)
 · exact q0g h 1 (by decide)
 · exact q0g h 2 (by decide)
 · exact hm _
 · exact q0g h 4 (by decide)
 · exact q0g h 5 (by decide)
 exact q0g h 6 (by decide)
theorem q1f {b:List UInt8} {h:List Int} (hh:inWs h):∀t,inWs (rnds b h t)
 |0=>hh
 |t+1=>j3Z (q1f hh t)
theorem j4D:∀t,t<64→inW (kS t):=by decide
def blkS (b:List UInt8) (h:List Int):List Int:=(List.range 8).map fun i=>(h.getD i 0+ (rnds b h 64).getD i 0)%W32
def blkP (b:List UInt8) (h:List Int) (n:Nat):List Int:=(List.range 8).map fun i=>if i<n then (h.getD i 0+ (rnds b h 64).getD i 0)%W32 else h.getD i 0
end Go.Proofs.YtikapabgggphpaaGreatDoor
set_option linter.unusedSectionVars false
namespace Go.Sx
open Go
variable [Ghost] {P:Program} {AQ:Ex→List SV→List SObj→Prop} {k0:Nat} {k:List IT} {t:List SV} {H:List SObj}

structure Cln (cs:List SV):Prop where
 ren:∀σ,SV.renL σ cs=cs
 bel:∀n,SV.belL n cs=true
 shut:∀n H,SV.sealBL n H cs=some (cs,True)
 le:SV.leAL cs cs
theorem z3o {n:Nat} {l:List SObj}:sealHL n H l []=True:=by simp [sealHL]
theorem z1x {n:Nat} {o:SObj} {l l':List SObj}:sealHL n H (o :: l) (.dead :: l')=(o.unmarked∧sealHL n H l l'):=by simp [sealHL]
attribute [go_sem] z3o z1x
end Go.Sx
set_option linter.unusedSectionVars false
namespace Go.Sx
open Go
variable [Ghost] {P:Program} {AQ:Ex→List SV→List SObj→Prop} {k0:Nat} {k:List IT} {t:List SV} {H:List SObj}

def afterR (P:Program) (AQ:Ex→List SV→List SObj→Prop) (d:Option Tmp) (m:IM):Out→List SObj→Prop
 |.ret s,H'=>SoundI P AQ {m with tmps:=putT m.tmps d s,heap:=H'}
 |.pan s,H'=>AQ (.pan s) [] H'
theorem q0M {G:List Nat} {f:FuncId} {args args0:List SV} {H0 H1:List SObj} {o:Out} {d:Option Tmp} {m:IM} (hs:List Nat) (hp:PE P f args0 H0 o H1) (hargs:args=SV.renL (sig hs m.heap.length) args0) (hnd:hs.Nodup)
 (ha:atH (sig hs m.heap.length) m.heap hs H0) (hb:SV.belL H0.length args0=true) (hbh:belH H0.length H0=true) (hG:SameG G m.heap (mgA (sig hs m.heap.length) hs H1 m.heap))
 (h:afterR P AQ d m (o.ren (sig hs m.heap.length)) (mgA (sig hs m.heap.length) hs H1 m.heap)):CallR P AQ G f args d m:=by
 subst hargs
 refine ⟨hp.1,VCall.g (VCall.fr hs hnd ha hb hbh hp.2 ?_)⟩
 rintro o' H' _ ⟨rfl,rfl⟩
 cases o' with
 |ret s=>exact ⟨fun _=>hG,h⟩
 |pan s=>exact h

theorem z6P {C:Cx} {h:Nat} {T:TypeId} {cs cs':List SV} (hw:Wd C H) (hH:H[h]?=some (.cells T cs)) (hd:∀vs,SV.denL C cs vs→SV.denL C cs' vs):Wd C (H.set h (.cells T cs'))∧Ext ⟨C,H⟩ C (H.set h (.cells T cs')):=by
 have hget:∀ {i y},(H.set h (.cells T cs'))[i]?=some y→∃y',H[i]?=some y'∧y'.live=y.live∧(i≠h→y'=y):=fun {i y} hy=>by
  by_cases e:i=h
  · subst e
    rw [List.getElem?_set_self (List.getElem?_eq_some_iff.1 hH).1] at hy
    cases hy
    exact ⟨_,hH,rfl,fun hn=>absurd rfl hn⟩
  rw [List.getElem?_set_ne (Ne.symm e)] at hy
  exact ⟨y,hy,rfl,fun _=>rfl⟩
 have hown:∀b,OwnB C (H.set h (.cells T cs')) b→OwnB C H b:=fun b ⟨i,y,hy,hl,hb⟩=>by
  obtain ⟨y',h1,h2,_⟩:=hget hy
  exact ⟨i,y',h1,by rw [h2];exact hl,hb⟩
 refine ⟨⟨by rw [List.length_set];exact hw.n,fun i y hy=> ?_,fun b hb=>hw.own b (hown b hb),fun i j y z b hy hz hl hl' hb hb'=> ?_,hw.imm⟩,⟨Evo.refl _,Nat.le_refl _,rfl,rfl,rfl,fun _ _ _=>rfl,fun _ h=>.inl h,fun b hb=>.inr (hown b hb),fun _ _ hm=>q3t hH rfl hm⟩⟩
 · by_cases e:i=h
   · subst e
     rw [List.getElem?_set_self (List.getElem?_eq_some_iff.1 hH).1] at hy
     cases hy
     obtain ⟨b,vs,h1,h2,h3⟩:=hw.obj i _ hH
     exact ⟨b,vs,h1,h2,hd vs h3⟩
   rw [List.getElem?_set_ne (Ne.symm e)] at hy
   exact hw.obj i y hy
 obtain ⟨y',h1,h2,_⟩:=hget hy
 obtain ⟨z',h3,h4,_⟩:=hget hz
 exact hw.inj i j y' z' b h1 h3 (by rw [h2];exact hl) (by rw [h4];exact hl') hb hb'
theorem q8h {P:Program} {k:List It} {tm:List SV} (h off:Nat) (ty:Ty) {T:TypeId} {cs:List SV} (hH:H[h]?=some (.cells T cs)) (hi:cs[off]?=some (.raw (.slice none 0 0))) (hs:Sound P AQ ⟨k0,k,tm,(H.set h (.cells T (cs.set off (.bld H.length ty 0))))++ [.row ty []]⟩):Sound P AQ ⟨k0,k,tm,H⟩:=by
 intro E r n C a h0 hd
 obtain ⟨C',hw,g1,g2,g3⟩:=z0C (t:=ty) hd.wd
 have hH':(H++ [SObj.row ty []])[h]?=some (.cells T cs):=by rw [List.getElem?_append_left (List.getElem?_eq_some_iff.1 hH).1];exact hH
 obtain ⟨q1,q2⟩:=z6P (cs':=cs.set off (.bld H.length ty 0)) g1 hH' (fun vs hv=>by
  obtain ⟨v,hv',hd'⟩:=q1T hv hi
  rw [SV.den] at hd'
  subst hd'
  have:=q2S (i:=off) hv g3
  have he:vs.set off (.slice none 0 0)=vs:=by
   apply List.ext_getElem?
   intro j
   by_cases e:j=off
   · subst e
     rw [List.getElem?_set_self (List.getElem?_eq_some_iff.1 hv').1,hv']
   rw [List.getElem?_set_ne (Ne.symm e)]
  rwa [he] at this)
 have hset:(H++ [SObj.row ty []]).set h (.cells T (cs.set off (.bld H.length ty 0)))=H.set h (.cells T (cs.set off (.bld H.length ty 0)))++ [.row ty []]:=List.set_append_left _ _ (List.getElem?_eq_some_iff.1 hH).1
 rw [hset] at q1 q2
 have:=hs E r n C' a h0 ⟨q1,hd.ext.trans (g2.trans q2),DefOk.next (g2.trans q2) hd.defs,q0l g2.evo hd.tmps⟩
 rw [←hw];exact this
theorem q5j (h off:Nat) (ty:Ty) {T:TypeId} {cs:List SV} {td:List IT} (hp:plainT td=true) (hH:H[h]?=some (.cells T cs)) (hi:cs[off]?=some (.raw (.slice none 0 0))) (hs:SoundI P AQ ⟨k0,td,t,(H.set h (.cells T (cs.set off (.bld H.length ty 0))))++ [.row ty []]⟩):SoundI P AQ ⟨k0,td,t,H⟩:=
 q0c (fun _ hr=>q8h h off ty hH hi (q0e hs hr)) hp
theorem rnE {p q:Prop} (h:q) (e:p=q:=by (simp only [afterR,Out.ren,SV.ren,mgA,sig,SObj.ren,SV.renL,List.cons_append,List.nil_append,List.append_assoc,List.set_cons_zero,List.set_cons_succ,List.set,List.map,List.append_nil];rfl)):p:=Eq.mpr e h
end Go.Sx
set_option linter.unusedSectionVars false
namespace Go.Sx
open Go
variable [Ghost] {P:Program} {AQ:Ex→List SV→List SObj→Prop} {k0:Nat} {k:List IT} {t:List SV} {H:List SObj}

end Go.Sx
set_option linter.unusedSectionVars false
namespace Go.Sx
open Go
variable {P:Program} {AQ:Ex→List SV→List SObj→Prop} {k0:Nat} {k:List IT} {t:List SV} {H:List SObj}

def SameBut (ws:List Nat) (t t':List SV):Prop:=t'.length=t.length∧∀i,i ∉ ws→t'[i]?=t[i]?
theorem SameBut.put {ws:List Nat} {t t':List SV} (h:SameBut ws t t') {d:Option Tmp} (hd:∀e,d=some e→e∈ws) (s:SV):SameBut ws t (putT t' d s):=by
 cases d with
 |none=>exact h
 |some e=>exact ⟨by simp [putT,h.1],fun i hi=>by
  have hne:e≠i:=fun e'=>hi (e'▸hd e rfl)
  simp only [putT]
  rw [List.getElem?_set_ne hne]
  exact h.2 i hi⟩
theorem q9f:∀ (ws:List Nat) (t:List SV),(maskT ws t).length=t.length
 | [],t=>rfl
 |d :: ws,t=>by
  show (maskT ws (t.set d .any)).length=_
  rw [q9f ws,List.length_set]
theorem z1S:∀ (ws:List Nat) (t:List SV) (i:Nat) (s:SV),(maskT ws t)[i]?=some s→s= .any∨(i ∉ ws∧t[i]?=some s)
 | [],t,i,s,h=>.inr ⟨by simp,h⟩
 |d :: ws,t,i,s,h=>by
  have h':(maskT ws (t.set d .any))[i]?=some s:=h
  rcases z1S ws _ i s h' with rfl| ⟨h1,h2⟩
  · exact .inl rfl
  by_cases e:d=i
  · subst e
    rw [List.getElem?_set] at h2
    simp at h2
    exact .inl h2.2.symm
  rw [List.getElem?_set_ne e] at h2
  exact .inr ⟨by simp [h1];exact fun q=>e q.symm,h2⟩
theorem z6K:∀ {l l':List SV},l.length=l'.length→(∀ (i:Nat) s s',l[i]?=some s→l'[i]?=some s'→s'= .any∨s'=s)→leL l l'
 | [],[],_,_=>trivial
 | [],_ :: _,h,_=>by simp at h
 |_ :: _,[],h,_=>by simp at h
 |s :: l,s' :: l',h,hp=>by
  refine ⟨?_,z6K (by simpa using h) fun i x x' hx hx'=>hp (i+1) x x' (by simpa using hx) (by simpa using hx')⟩
  rcases hp 0 s s' rfl rfl with rfl|rfl
  · exact SV.le_any s
  exact SV.le_refl _
theorem SameBut.le {ws:List Nat} {t t':List SV} (h:SameBut ws t t'):leL t' (maskT ws t):=
 z6K (by rw [q9f,h.1]) fun i s s' hs hs'=>by
  rcases z1S ws t i s' hs' with rfl| ⟨h1,h2⟩
  · exact .inl rfl
  right
  rw [h.2 i h1,h2] at hs
  cases hs;rfl
end Go.Sx
namespace Go.Sx
open Go

def ZInv (q:Nat→Prop) (w0:World) (C:Cx) (H:List SObj):Prop:=∀b,q b→b<C.w.heap.size∧¬C.I b∧¬OwnB C H b∧C.w.heap[b]?=w0.heap[b]?

theorem z7k {E:En} {C:Cx} {H:List SObj} (hx:Ext E C H) {b:Nat} (h1:b<E.C.w.heap.size) (h2:¬E.C.I b) (h3:¬OwnB E.C E.H b):b<C.w.heap.size∧¬C.I b∧¬OwnB C H b∧C.w.heap[b]?=E.C.w.heap[b]?:=by
 refine ⟨Nat.lt_of_lt_of_le h1 hx.size,fun hi=> ?_,fun ho=> ?_,hx.frame b h1 h3⟩
 · rcases hx.immNew b hi with g| ⟨g|g,_⟩
   · exact h2 g
   · exact absurd h1 (Nat.not_lt.2 g)
   exact h3 g
 rcases hx.ownNew b ho with g|g
 · exact absurd h1 (Nat.not_lt.2 g)
 exact h3 g

@[reducible] def frzG (q:Nat→Prop) (w0:World):Ghost where
 inv0:=fun _ C H=>ZInv q w0 C H
 fin:=fun E _ _ ds=>ds=E.base∧True
 toFin0:=fun _ _=>⟨rfl,trivial⟩
 next0:=fun hx h b hb=>by
  obtain ⟨h1,h2,h3,h4⟩:=h b hb
  obtain ⟨g1,g2,g3,g4⟩:=z7k hx h1 h2 h3
  exact ⟨g1,g2,g3,g4.trans h4⟩
 same0:=fun _ e _ hi ho _ _ h b hb=>by
  obtain ⟨h1,h2,h3,h4⟩:=h b hb
  rw [e]
  exact ⟨h1,fun x=>(hi b x).elim h2 h3,fun x=>h3 (ho b x),h4⟩

def simV (u v:Value):Prop:=v=u∨(∃k n m,u= .int k n∧v= .int k m)∨∃s s',u= .string s∧v= .string s'∧s'.size≤140737488355328
def simB (o o':Option Obj):Prop:=o'=o∨∃ (vs vs':List Value) (T:TypeId) (fz:Nat×Nat),o=some (.cells vs.toArray T fz)∧o'=some (.cells vs'.toArray T fz)∧vs'.length=vs.length∧∀ (i:Nat) u v,vs[i]?=some u→vs'[i]?=some v→simV u v
theorem simV.trans {u v w:Value} (h:simV u v) (k:simV v w):simV u w:=by
 rcases h with rfl| ⟨k',n,m,rfl,rfl⟩ | ⟨s,s',rfl,rfl,h1⟩
 · exact k
 · rcases k with rfl| ⟨k2,n2,m2,h1,rfl⟩ | ⟨s,s',h1,_⟩
   · exact .inr (.inl ⟨_,_,_,rfl,rfl⟩)
   · cases h1;exact .inr (.inl ⟨_,_,_,rfl,rfl⟩)
   cases h1
 rcases k with rfl| ⟨k2,n2,m2,h1,rfl⟩ | ⟨s2,s3,h2,rfl,h3⟩
 · exact .inr (.inr ⟨_,_,rfl,rfl,h1⟩)
 · cases h1
 cases h2;exact .inr (.inr ⟨_,_,rfl,rfl,h3⟩)
def SInv (q:Nat→Prop) (w0:World) (E:En) (C:Cx) (H:List SObj):Prop:=
 ∀b,q b→((E.C.w.heap.size≤b∨OwnB E.C E.H b)∧¬TBlk b)∧b<C.w.heap.size∧¬C.I b∧¬OwnB C H b∧Unf C.w b∧simB w0.heap[b]? C.w.heap[b]?

@[reducible] def scrG (q:Nat→Prop) (w0:World):Ghost where
 inv0:=fun E C H=>SInv q w0 E.toEn C H
 fin:=fun E C H ds=>ds=E.base∧SInv q w0 E.toEn C H
 toFin0:=fun _ h=>⟨rfl,h⟩
 next0:=fun hx h b hb=>by
  obtain ⟨h0,h1,h2,h3,h4,h5⟩:=h b hb
  obtain ⟨g1,g2,g3,g4⟩:=z7k hx h1 h2 h3
  refine ⟨h0,g1,g2,g3,h4.keep g4,?_⟩
  have g4':=g4
  simp only at g4'
  rw [g4'];exact h5
 same0:=fun _ e _ hi ho _ _ h b hb=>by
  obtain ⟨h0,h1,h2,h3,h4,h5⟩:=h b hb
  rw [e]
  exact ⟨h0,h1,fun x=>(hi b x).elim h2 h3,fun x=>h3 (ho b x),h4,h5⟩

def At (q:Nat→Prop) (w0:World) (t:Ty) (x:t.den) (b o:Nat):Prop:=q b∧∃vs,t.rel q w0 x vs∧∀j u,vs[j]?=some u→w0.cell? ⟨b,o+j,none⟩=some u
theorem At.fst {q:Nat→Prop} {w0:World} {s t:Ty} {x:(Ty.prod s t).den} {b o:Nat} (h:At q w0 (.prod s t) x b o):At q w0 s x.1 b o:=by
 obtain ⟨hq,vs,⟨v1,v2,rfl,h1,h2⟩,hc⟩:=h
 exact ⟨hq,v1,h1,fun j u hj=>hc j u (by rw [List.getElem?_append_left (List.getElem?_eq_some_iff.1 hj).1];exact hj)⟩
theorem At.snd {q:Nat→Prop} {w0:World} {s t:Ty} {x:(Ty.prod s t).den} {b o:Nat} (h:At q w0 (.prod s t) x b o):At q w0 t x.2 b (o+s.size):=by
 obtain ⟨hq,vs,⟨v1,v2,rfl,h1,h2⟩,hc⟩:=h
 refine ⟨hq,v2,h2,fun j u hj=> ?_⟩
 rw [Nat.add_assoc]
 refine hc (s.size+j) u ?_
 rw [←s.rel_size _ _ h1,List.getElem?_append_right (Nat.le_add_right _ _),Nat.add_sub_cancel_left]
 exact hj
def Sl (q:Nat→Prop) (w0:World) (t:Ty) (xs:List t.den) (v:Value):Prop:=(Ty.slice t).rel q w0 xs [v]
theorem Sl.out {q:Nat→Prop} {w0:World} {t:Ty} {xs:List t.den} {v:Value} (h:Sl q w0 t xs v):
 ∃A c,v= .slice A xs.length c∧(xs= []∨∃b o,A=some ⟨b,o,none⟩∧∀i x,xs[i]?=some x→At q w0 t x b (o+i*t.size)):=by
 obtain ⟨A,n,c,e,rfl,_,_,h⟩:=h
 simp only [List.cons.injEq,and_true] at e
 refine ⟨A,c,e,orMap h id ?_⟩
 rintro ⟨b,o,rfl,hq,h⟩
 exact ⟨b,o,rfl,fun i x hx=>⟨hq,h i x hx⟩⟩
theorem At.sl {q:Nat→Prop} {w0:World} {t:Ty} {xs:List t.den} {b o:Nat} (h:At q w0 (.slice t) xs b o):∃v,Sl q w0 t xs v∧w0.cell? ⟨b,o,none⟩=some v:=by
 obtain ⟨hq,vs,hr,hc⟩:=h
 obtain ⟨A,n,c,rfl,_⟩:=id hr
 exact ⟨_,hr,hc 0 _ rfl⟩
theorem At.int {q:Nat→Prop} {w0:World} {k:IntKind} {x:(Ty.int k).den} {b o:Nat} (h:At q w0 (.int k) x b o):w0.cell? ⟨b,o,none⟩=some (.int k x):=by
 obtain ⟨hq,vs,rfl,hc⟩:=h;exact hc 0 _ rfl
theorem At.u8 {q:Nat→Prop} {w0:World} {x:Ty.u8.den} {b o:Nat} (h:At q w0 .u8 x b o):w0.cell? ⟨b,o,none⟩=some (.int .u8 (UInt8.toNat x)):=by
 obtain ⟨hq,vs,rfl,hc⟩:=h;exact hc 0 _ rfl
theorem At.str {q:Nat→Prop} {w0:World} {x:Ty.str.den} {b o:Nat} (h:At q w0 .str x b o):w0.cell? ⟨b,o,none⟩=some (.string x):=by
 obtain ⟨hq,vs,⟨rfl,_⟩,hc⟩:=h;exact hc 0 _ rfl

variable {P:Program} {AQ:Ex→List SV→List SObj→Prop}
theorem j3Y {C:Cx} {H:List SObj} {w':World} (hw:Wd C H) (hs:w'.heap.size=C.w.heap.size) (hb:∀b,C.I b∨OwnB C H b→w'.heap[b]?=C.w.heap[b]?) (hz:∀b m,World.bsize C.w b=some m→World.bsize w' b=some m):
 Wd {C with w:=w'} H∧Evo C {C with w:=w'}:=by
 have he:Evo C {C with w:=w'}:=⟨Nat.le_refl _,fun _ _=>rfl,fun b hI=>⟨hI,hb b (.inl hI)⟩,hz⟩
 refine ⟨⟨hw.n,fun h o ho=> ?_,fun b hb'=> ?_,hw.inj,fun b hI=> ?_⟩,he⟩
 · by_cases hl:o.live=true
   · exact q0x (C':={C with w:=w'}) he.I h rfl (fun b hb'=>hb b (.inr ⟨h,o,ho,hl,hb'⟩)) (q0l he) (hw.obj h o ho)
   cases o<;>first|trivial|simp [SObj.live] at hl
 · have:=hw.own b hb'
   exact ⟨this.1,by rw [hs];exact this.2⟩
 rw [hs];exact hw.imm b hI

end Go.Sx
namespace Go.Sx
open Go

variable {P:Program} {AQ:Ex→List SV→List SObj→Prop} {k0:Nat} {k:List IT} {t:List SV} {H:List SObj}

theorem j3i {f:FuncId} {fi:FI} (h:finfo P f=some fi):∃fn c,P.funcs[f]?=some fn∧fn.body=some c∧comp P c=some fi.code∧fn.ntmps=fi.ntmps∧fn.results.toList=fi.results∧enters P f=true:=by
 unfold finfo at h
 split at h
 · rename_i fn hf
   split at h
   · rename_i c hb
     split at h
     · rename_i ic hc
       split at h
       · cases h
       rename_i hn
       cases h
       exact ⟨fn,c,hf,hb,hc,rfl,rfl,by simp [enters,hf,hb];simpa using hn⟩
     cases h
   cases h
 cases h
def VCallZ (q:Nat→Prop) (w0:World) (P:Program) (f:FuncId) (args:List SV) (H:List SObj) (K:Out→List SObj→Prop):Prop:=
 ∀ (C:Cx) (vs:List Value),Wd C H→TabT C H→ZInv q w0 C H→SV.denL C args vs→Calls P f vs.toArray C.w fun e w'=>∃o H' C',K o H'∧C'.w=w'∧Wd C' H'∧Ext ⟨C,H⟩ C' H'∧outDen C' o e
theorem VCallZ.g {q:Nat→Prop} {w0:World} {f:FuncId} {args:List SV} {K:Out→List SObj→Prop} (h:VCallZ q w0 P f args H K): @VCallG (frzG q w0) P f args H K:=
 fun E C vs hw hg hv=>(h C vs hw hg.1.tab hg.2 hv).mono fun _ _ ⟨o,H',C',k,e,w,x,r⟩=>⟨o,H',C',k,e,w, @Stp.of (frzG q w0) E C C' H H' x,r⟩
theorem ZInv.nil {q:Nat→Prop} {w0:World} {C:Cx} (h:ZInv q w0 C H):ZInv q w0 {C with n:=0} []:=fun b hb=>by
 obtain ⟨h1,h2,h3,h4⟩:=h b hb
 exact ⟨h1,h2,fun ⟨i,o,ho,_⟩=>by simp at ho,h4⟩
def Ty.flat:Ty→Bool
 |.slice _=>false
 |.prod a b=>a.flat&& b.flat
 |.arr _ t=>t.flat
 |.ptr _=>false
 |.clo _ _=>false
 |.clp _ _=>false
 |.mbs _=>false
 |_=>true
theorem Ty.rel_flat {I I':Nat→Prop} {w w':World}:∀ (t:Ty) (x:t.den) (vs:List Value),t.flat=true→t.rel I w x vs→t.rel I' w' x vs
 |.u8,_,_,_,h=>h
 |.int _,_,_,_,h=>h
 |.bool,_,_,_,h=>h
 |.str,_,_,_,h=>h
 |.slice t,_,_,hf,_=>by cases hf
 |.prod a b,x,vs,hf,h=>by
  obtain ⟨v1,v2,rfl,h1,h2⟩:=h
  simp only [Ty.flat,Bool.and_eq_true] at hf
  exact ⟨v1,v2,rfl,a.rel_flat _ _ hf.1 h1,b.rel_flat _ _ hf.2 h2⟩
 |.unit,_,_,_,h=>h
 |.arr n t,xs,vs,hf,h=>by
  obtain ⟨hn,vss,rfl,hl,h⟩:=h
  exact ⟨hn,vss,rfl,hl,fun i x us hx hu=>t.rel_flat _ _ hf (h i x us hx hu)⟩
 |.ptr t,_,_,hf,_=>by cases hf
 |.clo _ t,_,_,hf,_=>by cases hf
 |.clp _ t,_,_,hf,_=>by cases hf
 |.mbs t,_,_,hf,_=>by cases hf
def RowK (ty:Ty) (xs:List ty.den):Out→List SObj→Prop:=fun o H'=>(xs= []∧o= .ret (.raw (.slice none 0 0))∧H'= [])∨(o= .ret (.bld 0 ty xs.length)∧H'= [.row ty xs])
theorem z9I {ty:Ty} {xs:List ty.den} {H':List SObj} (h:xs= []):Weak 0 (RowK ty xs) (.ret (.raw (.slice none 0 0))) H':=
 ⟨fun h=>h,.raw (.slice none 0 0),.raw (.slice none 0 0),[],⟨⟨rfl,trivial⟩,trivial,rfl,rfl,rfl,rfl,Nat.le_refl _,fun _ h0=>absurd h0 (Nat.lt_irrefl 0)⟩,.inl (.inl rfl),.inl ⟨h,rfl,rfl⟩⟩
theorem z9r {ty:Ty} {xs:List ty.den} {H':List SObj} {h n:Nat} (hH:H'[h]?=some (.row ty xs)) (hn:n=xs.length):Weak 0 (RowK ty xs) (.ret (.bld h ty n)) H':=by
 subst hn
 exact ⟨fun _=>h,.bld 0 ty xs.length,.bld 0 ty xs.length,[.row ty xs],⟨⟨rfl,trivial⟩,⟨hH,trivial⟩,rfl,rfl,rfl,rfl,Nat.zero_le _,fun _ h0=>absurd h0 (Nat.lt_irrefl 0)⟩,.inl (.inl rfl),.inr ⟨rfl,rfl⟩⟩
theorem Ty.cells_rel {C:Cx}:∀ (t:Ty) (x:t.den) (vs:List Value),t.known=true→t.ok x→SV.denL C (t.cells x) vs→t.rel C.I C.w x vs
 |.u8,_,_,_,_,h=>by simp only [Ty.cells,SV.denL,SV.den] at h;obtain ⟨v,us,rfl,rfl,rfl⟩:=h;rfl
 |.int _,_,_,_,_,h=>by simp only [Ty.cells,SV.denL,SV.den] at h;obtain ⟨v,us,rfl,rfl,rfl⟩:=h;rfl
 |.bool,_,_,_,_,h=>by simp only [Ty.cells,SV.denL,SV.den] at h;obtain ⟨v,us,rfl,rfl,rfl⟩:=h;rfl
 |.str,_,_,_,ho,h=>by simp only [Ty.cells,SV.denL,SV.den] at h;obtain ⟨v,us,rfl,rfl,rfl⟩:=h;exact ⟨rfl,ho⟩
 |.slice t,_,_,_,_,h=>by simp only [Ty.cells,SV.denL,SV.den] at h;obtain ⟨v,us,rfl,h,rfl⟩:=h;exact h
 |.prod a b,x,vs,hk,ho,h=>by
  simp only [Ty.known,Bool.and_eq_true] at hk
  obtain ⟨v1,v2,rfl,h1,h2⟩:=q0u.1 h
  exact ⟨v1,v2,rfl,a.cells_rel _ _ hk.1 ho.1 h1,b.cells_rel _ _ hk.2 ho.2 h2⟩
 |.unit,_,_,_,_,h=>by simpa [Ty.cells,SV.denL,Ty.rel] using h
 |.arr n t,xs,vs,hk,ho,h=>by
  replace hk:t.known=true:=hk
  obtain ⟨hn,ho⟩:=ho
  refine ⟨hn,?_⟩
  simp only [Ty.cells] at h
  rw [←hn] at h
  clear hn
  have key:∀ (ys:List t.den) (vs:List Value),(∀x∈ys,t.ok x)→SV.denL C ((List.range ys.length).flatMap fun i=>t.cells (ys.getD i t.dflt)) vs→∃vss:List (List Value),vs=vss.flatten∧vss.length=ys.length∧∀ (i:Nat) x us,ys[i]?=some x→vss[i]?=some us→t.rel C.I C.w x us:=by
   intro ys
   induction ys with
   |nil=>intro vs _ h;exact ⟨[],by simpa [q0v] using h,rfl,fun i x us hx=>by simp at hx⟩
   |cons y ys ih=>
    intro vs ho h
    rw [List.length_cons,List.range_succ_eq_map,List.flatMap_cons,List.flatMap_map] at h
    obtain ⟨v1,v2,rfl,h1,h2⟩:=q0u.1 h
    obtain ⟨vss,rfl,hl,hr⟩:=ih v2 (fun x hx=>ho x (List.mem_cons_of_mem _ hx)) h2
    refine ⟨v1 :: vss,rfl,by simp [hl],fun i x us hx hu=> ?_⟩
    cases i with
    |zero=>simp at hx hu;subst hx hu;exact t.cells_rel _ _ hk (ho _ (List.mem_cons_self ..)) h1
    |succ i=>exact hr i x us (by simpa using hx) (by simpa using hu)
  exact key xs vs ho h
 |.ptr t,x,vs,_,ho,h=>by
  cases x with
  |none=>
   simp only [Ty.cells,SV.denL,SV.den] at h
   obtain ⟨v,us,rfl,rfl,rfl⟩:=h
   exact .inl ⟨rfl,rfl⟩
  |some x=>
   simp only [Ty.cells,SV.denL,SV.den] at h
   obtain ⟨v,us,rfl,⟨b,off,ws,rfl,hI,hr,hc⟩,rfl⟩:=h
   exact .inr ⟨x,b,off,ws,rfl,by rw [Nat.add_zero],hI,hr,hc⟩
 |.clo f t,x,vs,hk,ho,h=>by
  simp only [Ty.cells,SV.denL,SV.den] at h
  obtain ⟨v,us,rfl,⟨v1,v2,rfl,⟨u,ws,rfl,⟨zs,rfl,hz⟩,rfl⟩,rfl⟩,rfl⟩:=h
  exact ⟨zs,rfl,t.cells_rel _ _ hk ho hz⟩
 |.clp f t,x,vs,hk,ho,h=>by
  simp only [Ty.cells,SV.denL,SV.den] at h
  obtain ⟨v,us,rfl,⟨v1,v2,rfl,rfl,⟨u,ws,rfl,⟨b,off,zs,rfl,hI,hr,hc⟩,rfl⟩⟩,rfl⟩:=h
  exact ⟨b,off,zs,by rw [Nat.add_zero],hI,hr,hc⟩
 |.mbs _,_,_,hk,_,_=>by cases hk

end Go.Sx
set_option linter.unusedSectionVars false
namespace Go.Sx
open Go
variable {P:Program} {AQ:Ex→List SV→List SObj→Prop} {k0:Nat} {k:List IT} {t:List SV} {H:List SObj}

theorem z3s [Ghost] {f:FuncId} {args:List SV} {ty:Ty} {xs:List ty.den} {d:Option Tmp} {td:List IT} (hp:VC P f args [] (RowK ty xs)) (hb:SV.belL 0 args=true) (hargs:args=SV.renL (sig [] H.length) args)
 (h0:xs= []→SoundI P AQ ⟨k0,td,putT t d (.raw (.slice none 0 0)),H⟩) (h:SoundI P AQ ⟨k0,td,putT t d (.bld H.length ty xs.length),H++ [.row ty xs]⟩):CallI P AQ f args d ⟨k0,td,t,H⟩:=by
 refine ⟨hp.1,VCall.g ?_⟩
 rw [hargs]
 refine VCall.fr (H0:=[]) [] (by simp) trivial hb rfl hp.2 ?_
 rintro o H' _ (⟨e,rfl,rfl⟩ | ⟨rfl,rfl⟩)
 · simp only [mgA,List.map_nil,List.append_nil];exact h0 e
 exact h
theorem q2f [Ghost] (d h:Nat) {T:TypeId} {ty:Ty} {x:ty.den} {td:List IT} (hp:plainT td=true) (hok:ty.ok x) (hH:H[h]?=some (.cells T (ty.cells x))) (hd:t[d]?=some (.ptr h 0)) (hs:SoundI P AQ ⟨k0,td,t.set d (.iptr ty x 0),H.set h .dead⟩) (hkn:ty.known=true:=by rfl):
 SoundI P AQ ⟨k0,td,t,H⟩:=q0c (fun td' hr E r n C a h0 hden=>by
 have h1:=q0e hs hr
 obtain ⟨b,vs,hb,hcell,hvs⟩:=hden.wd.obj h _ hH
 have hown:OwnB C H b:=⟨h,_,hH,rfl,hb⟩
 obtain ⟨hnI,hlt⟩:=hden.wd.own b hown
 have hoff:∀b',OwnB C (H.set h .dead) b'→OwnB C H b'∧b'≠b:=by
  rintro b' ⟨i,o,ho,hl,hb'⟩
  by_cases e:h=i
  · subst e
    rw [List.getElem?_set_self (List.getElem?_eq_some_iff.1 hH).1] at ho
    cases ho;simp [SObj.live] at hl
  rw [List.getElem?_set_ne e] at ho
  refine ⟨⟨i,o,ho,hl,hb'⟩,fun e'=> ?_⟩
  subst e'
  exact e (hden.wd.inj h i _ o b' hH ho rfl hl hb hb')
 let C':Cx:={C with I:=fun b'=>C.I b'∨b'=b}
 have he:Evo C C':=⟨Nat.le_refl _,fun _ _=>rfl,fun b' hb'=>⟨.inl hb',rfl⟩,fun _ _ hm=>hm⟩
 have hw:Wd C' (H.set h .dead):=by
  refine ⟨by simp [C',hden.wd.n],fun i o ho=> ?_,fun b' hb'=> ?_,fun i i' o o' b' h1 h2 h3 h4 h5 h6=> ?_,fun b' hb'=> ?_⟩
  · by_cases e:h=i
    · subst e
      rw [List.getElem?_set_self (List.getElem?_eq_some_iff.1 hH).1] at ho
      cases ho;trivial
    rw [List.getElem?_set_ne e] at ho
    exact q0x he.I i rfl (fun _ _=>rfl) (q0l he) (hden.wd.obj i o ho)
  · obtain ⟨g1,g2⟩:=hoff b' hb'
    have:=hden.wd.own b' g1
    exact ⟨fun hi=>hi.elim this.1 g2,this.2⟩
  · have key:∀ {i:Nat} {o:SObj},(H.set h .dead)[i]?=some o→o.live=true→H[i]?=some o:=fun {i o} ho hl=>by
     by_cases e:h=i
     · subst e
       rw [List.getElem?_set_self (List.getElem?_eq_some_iff.1 hH).1] at ho
       cases ho;simp [SObj.live] at hl
     rwa [List.getElem?_set_ne e] at ho
    exact hden.wd.inj i i' o o' b' (key h1 h3) (key h2 h4) h3 h4 h5 h6
  exact hb'.elim (hden.wd.imm b') fun e=>e▸hlt
 have hmk:∀n,H[0]?=some (.mark n)→(H.set h .dead)[0]?=some (.mark n):=fun n hn=>q3t hH rfl hn
 have hx:Ext E.toEn C' (H.set h .dead):=by
  refine ⟨hden.ext.evo.trans he,hden.ext.size,hden.ext.os,hden.ext.tape,hden.ext.output,hden.ext.frame,fun b' hb'=> ?_,fun b' hb'=>hden.ext.ownNew b' (hoff b' hb').1,fun n h0 hn=>hmk n (hden.ext.keep0 n h0 hn)⟩
  rcases hb' with hb'|rfl
  · exact hden.ext.immNew b' hb'
  exact .inr ⟨hden.ext.ownNew b' hown,q3O (C:=C) hden.wd hown⟩
 have hg:Ghost.inv E C' (H.set h .dead):=Ghost.same (C:=C) (C':=C') hden.wd rfl (fun b' hb'=>.inl hb') (fun b' (hb':C.I b'∨b'=b)=>hb'.elim .inl fun e=>.inr (by subst e;exact hown)) (fun b' hb'=>(hoff b' hb').1) (fun n _ hn=>hmk n hn) hden.ext.evo.n hden.defs.2
 refine h1 E r n C' a h0 ⟨hw,hx,⟨hden.defs.1,hg⟩,?_⟩
 have ht:=q0l he hden.tmps
 obtain ⟨v,hv,hdv⟩:=q1T ht hd
 rw [SV.den] at hdv
 obtain ⟨_,b',hb',rfl⟩:=hdv
 have e:b'=b:=by have:C.ρ h=some b':=hb';rw [hb] at this;exact (Option.some.inj this).symm
 subst e
 have hi:(SV.iptr ty x 0).den C' (.pointer (some ⟨b',0,none⟩)):=by
  rw [SV.den]
  exact ⟨b',0,vs,rfl,.inr rfl,ty.cells_rel _ _ hkn hok (q0l he hvs),fun j u hj=>by rw [Nat.zero_add];show C.w.cell? _=_;rw [q0m hcell];exact hj⟩
 have h9:=q2S (i:=d) ht hi
 have e9:a.tmps.toList.set d (.pointer (some ⟨b',0,none⟩))=a.tmps.toList:=by
  apply List.ext_getElem?
  intro j
  by_cases ej:d=j
  · subst ej;rw [List.getElem?_set_self (List.getElem?_eq_some_iff.1 hv).1,hv]
  rw [List.getElem?_set_ne ej]
 rwa [e9] at h9) hp
theorem z0G [Ghost] (d h i k:Nat) {ty:Ty} {xs:List ty.den} {td:List IT} (hp:plainT td=true) (hH:H[h]?=some (.row ty xs)) (hd:t[d]?=some (.rptr h ty i k)) (hi:i<xs.length) (hlen:xs.length≤1125899906842624) (ho:frzObH h ty xs H) (hot:SV.frzObL h ty xs t)
 (hs:SoundI P AQ ⟨k0,td,(SV.frzL h ty xs t).set d (.iptr ty (xs.getD i ty.dflt) k),frzH h ty xs H⟩):SoundI P AQ ⟨k0,td,t,H⟩:=q0c (fun td' hr E r n C a h0 hden=>by
 obtain ⟨g1,g2⟩:=z6R hden.wd hden.ext hH hlen ho
 have hdef:DefOk E (C.frz h) (frzH h ty xs H) a.defers:=⟨hden.defs.1,Ghost.same hden.wd rfl (fun _ h=>.inl h) (fun b hb=>orMap hb id fun hb=>⟨h,_,hH,rfl,hb⟩) (fun b hb=>(z5D hden.wd hH hb).1) (fun _ _ hn=>q9b hH hn) hden.ext.evo.n hden.defs.2⟩
 have ht:=q1Q hden.wd hH hlen hot hden.tmps
 refine q0e hs hr E r n (C.frz h) a h0 ⟨g1,g2,hdef,?_⟩
 obtain ⟨v,hv,hdv⟩:=q1T hden.tmps hd
 rw [SV.den] at hdv
 obtain ⟨_,b,hb,rfl⟩:=hdv
 rcases hden.wd.obj h _ hH with ⟨_,h2⟩ | ⟨b',arr,T,fz,hb',hcell,hfz,hsz,hrow⟩
 · subst h2;simp at hi
 rw [hb] at hb';cases hb'
 obtain ⟨us,q1,q2⟩:=hrow i (xs.getD i ty.dflt) (by rw [List.getD_eq_getElem?_getD,List.getElem?_eq_getElem hi];rfl)
 have hx:(SV.iptr ty (xs.getD i ty.dflt) k).den (C.frz h) (.pointer (some ⟨b,i*ty.size+k,none⟩)):=by
  rw [SV.den]
  refine ⟨b,i*ty.size,us,rfl,.inr hb,Ty.rel_keep (q0J C h).I _ _ _ q1,fun j u hj=> ?_⟩
  have:=q2 j u hj
  rw [Nat.zero_add] at this
  exact this
 have h9:=q2S (i:=d) ht hx
 have e9:a.tmps.toList.set d (.pointer (some ⟨b,i*ty.size+k,none⟩))=a.tmps.toList:=by
  apply List.ext_getElem?
  intro j
  by_cases ej:d=j
  · subst ej;rw [List.getElem?_set_self (List.getElem?_eq_some_iff.1 hv).1,hv]
  rw [List.getElem?_set_ne ej]
 rwa [e9] at h9) hp
end Go.Sx
set_option linter.unusedSectionVars false
namespace Go.Sx
open Go

variable {P:Program} {AQ:Ex→List SV→List SObj→Prop} {k0:Nat} {k:List IT} {t:List SV} {H:List SObj}

end Go.Sx
set_option linter.unusedSectionVars false
namespace Go.Sx
open Go
variable [Ghost] {P:Program} {AQ:Ex→List SV→List SObj→Prop} {k0:Nat} {k:List IT} {t:List SV} {H:List SObj}

theorem VC.arg {f:FuncId} {args args':List SV} {K:Out→List SObj→Prop} (h:VC P f args H K) (hl:SV.leVL args' args):VC P f args' H K:=
 ⟨h.1,fun C vs hw ht hv=>h.2 C vs hw ht (q4s hl hv)⟩
theorem j3u {ty:Ty} {xs:List ty.den} {H':List SObj} {h n m:Nat} (hH:H'[h]?=some (.row ty xs)) (hn:n=m):Weak 0 (fun o' H''=>o'= .ret (.bld 0 ty m)∧H''= [.row ty xs]) (.ret (.bld h ty n)) H':=by
 subst hn
 exact ⟨fun _=>h,.bld 0 ty n,.bld 0 ty n,[.row ty xs],⟨⟨rfl,trivial⟩,⟨hH,trivial⟩,rfl,rfl,rfl,rfl,Nat.zero_le _,fun _ h0=>absurd h0 (Nat.lt_irrefl 0)⟩,.inl (.inl rfl),⟨rfl,rfl⟩⟩
end Go.Sx
set_option linter.unusedSectionVars false
namespace Go.Sx
open Go

variable {P:Program}
def PCE (P:Program) (f:FuncId) (args:List SV) (p:SV→Prop):Prop:=enters P f=true∧∀ (H:List SObj) (K:Out→List SObj→Prop),(∀s,p s→K (.ret s) H)→VCall P f args H K
theorem PCE.mono {f:FuncId} {args:List SV} {p q:SV→Prop} (h:PCE P f args p) (hq:∀s,p s→q s):PCE P f args q:=⟨h.1,fun H K hk=>h.2 H K fun s hs=>hk s (hq s hs)⟩
section
variable [Ghost] {AQ:Ex→List SV→List SObj→Prop}
end

section
variable {AQ:Ex→List SV→List SObj→Prop}
theorem q2U [Ghost] {b:Nat} {t:Ty} {x:t.den} {ag:Option Nat} {s:SV} {d:Option Tmp} {m:IM} (hm:(b,(⟨t,x⟩:Sigma Ty.den))∈datList) (hs:SV.ofT ag t x=some s) (ha:ag=none∨ag=some t.size) (hk:SoundI P AQ {m with tmps:=putT m.tmps d s}):ZldI P AQ ag b 0 d m:=by
 rintro E C _ ⟨⟨ht,_⟩,_⟩
 exact ⟨s,.inr ⟨t,x,(ht.dat _ hm).2,hs,ha⟩,hk⟩
end
end Go.Sx
namespace Go.Proofs.YtikapabgggphpaaGreatDoor
open Go Go.Sx Go.Proofs
set_option maxRecDepth 100000
set_option maxHeartbeats 40000000
theorem fdivW (x:Int) (n:Nat) (hn:0<n):x.fdiv (n:Int)=x / (n:Int):=Int.fdiv_eq_ediv_of_nonneg _ (by omega)
theorem q4x (b:List UInt8) (h:List Int) (n:Nat):(blkP b h n).length=8:=by simp [blkP]
theorem q4j (b:List UInt8) (h:List Int) {i:Nat} (hi:i<8):(blkP b h i).getD i 0=h.getD i 0:=by
 simp [blkP,List.getD_eq_getElem?_getD,hi]
theorem q3Z (b:List UInt8) (h:List Int) {i:Nat} (hi:i<8):(blkP b h i).set i ((h.getD i 0+ (rnds b h 64).getD i 0)%W32)=blkP b h (i+1):=by
 apply List.ext_getElem
 · simp [blkP]
 intro j h1 h2
 rw [List.getElem_set]
 simp only [blkP,List.getElem_map,List.getElem_range]
 split
 · subst_vars;rw [if_pos (by omega)]
 rename_i hne
 by_cases hj:j<i
 · rw [if_pos hj,if_pos (by omega)]
 rw [if_neg hj,if_neg (by omega)]
theorem q2V (b:List UInt8) {h:List Int} (hl:h.length=8):blkP b h 0=h:=by
 apply List.ext_getElem
 · simp [blkP,hl]
 intro j h1 h2
 simp only [blkP,List.getElem_map,List.getElem_range]
 rw [if_neg (Nat.not_lt_zero _),List.getD_eq_getElem?_getD,List.getElem?_eq_getElem h2]
 rfl
theorem q4p (b:List UInt8) (h:List Int):blkP b h 8=blkS b h:=by
 apply List.ext_getElem
 · simp [blkP,blkS]
 intro j h1 h2
 simp [blkP] at h1
 simp only [blkP,blkS,List.getElem_map,List.getElem_range]
 rw [if_pos h1]
theorem u8wrapR (x:Int):IntKind.u8.wrap x=x%256:=by simp [IntKind.wrap,IntKind.bits,IntKind.signed]
theorem q2l (x:Int):((UInt8.ofNat (IntKind.u8.wrap x).toNat).toNat:Int)=IntKind.u8.wrap x:=by
 have:=u8wrapR x
 rw [UInt8.toNat_ofNat'];omega
def padZ (b:List UInt8) (k:Nat):List UInt8:=b++ [128]++List.replicate k 0
def padN (n:Nat):Nat:=(119-n%64)%64
theorem z9x (b:List UInt8) (k:Nat):(padZ b k).length=b.length+1+k:=by simp [padZ];omega
def lnB8 (n:Nat) (j:Nat):List UInt8:=(List.range j).map fun i=>UInt8.ofNat (n / 2^ (8* (7-i))%256)
theorem z7T (n j:Nat):(lnB8 n j).length=j:=by simp [lnB8]
def padS (b:List UInt8):List UInt8:=padZ b (padN b.length)++lnB8 (8*b.length) 8
def hS0:List Int:=[0x6a09e667,0xbb67ae85,0x3c6ef372,0xa54ff53a,0x510e527f,0x9b05688c,0x1f83d9ab,0x5be0cd19]
def hashS (p:List UInt8):Nat→List Int
 |0=>hS0
 |k+1=>blkS ((p.take (64*k+64)).drop (64*k)) (hashS p k)
theorem z1q {b:List UInt8} {h:List Int}:inWs (blkS b h):=by
 refine ⟨by simp [blkS],fun x hx=> ?_⟩
 obtain ⟨i,_,rfl⟩:=List.mem_map.1 hx
 unfold inW W32;omega
theorem q5r:inWs hS0:=by decide
def wordB (h:List Int) (i:Nat):UInt8:=UInt8.ofNat ((h.getD (i / 4) 0).toNat / 2^ (24-8* (i%4))%256)
def bytesP (h:List Int) (n:Nat):List UInt8:=(List.range 32).map fun i=>if i<n then wordB h i else 0
def bytesS (h:List Int):List UInt8:=(List.range 32).map (wordB h)
theorem q7w (h:List Int) (n:Nat):(bytesP h n).length=32:=by simp [bytesP]
theorem q0W (h:List Int):(bytesS h).length=32:=by simp [bytesS]
theorem q3r (h:List Int) {i:Nat} (hi:i<32):(bytesP h i).set i (wordB h i)=bytesP h (i+1):=by
 apply List.ext_getElem
 · simp [bytesP]
 intro j h1 h2
 rw [List.getElem_set]
 simp only [bytesP,List.getElem_map,List.getElem_range]
 split
 · subst_vars;rw [if_pos (by omega)]
 rename_i hne
 by_cases hj:j<i
 · rw [if_pos hj,if_pos (by omega)]
 rw [if_neg hj,if_neg (by omega)]
theorem z3v (h:List Int):bytesP h 32=bytesS h:=by
 apply List.ext_getElem
 · simp [bytesP,bytesS]
 intro j h1 h2
 simp [bytesP] at h1
 simp only [bytesP,bytesS,List.getElem_map,List.getElem_range]
 rw [if_pos h1]
def blksN (b:List UInt8):Nat:=(b.length+72) / 64
def shaS (b:List UInt8):List UInt8:=bytesS (hashS (padS b) (blksN b))
theorem xor8 (a b:UInt8):xorK .u8 (a.toNat:Int) (b.toNat:Int)=((a^^^ b).toNat:Int):=by
 unfold xorK
 have ha:=a.toNat_lt
 have hb:=b.toNat_lt
 have hx:a.toNat^^^ b.toNat<2^ 8:=Nat.xor_lt_two_pow ha hb
 have e:(BitVec.ofInt IntKind.u8.bits (a.toNat:Int) ^^^ BitVec.ofInt IntKind.u8.bits (b.toNat:Int)).toNat=a.toNat^^^ b.toNat:=by
  rw [BitVec.toNat_xor,BitVec.ofInt_natCast,BitVec.ofInt_natCast,BitVec.toNat_ofNat,BitVec.toNat_ofNat]
  rw [show 2^ IntKind.u8.bits=256 from rfl,Nat.mod_eq_of_lt ha,Nat.mod_eq_of_lt hb]
 rw [e,u8wrapR,UInt8.toNat_xor]
 omega
def hkP (k:List UInt8) (c:UInt8) (n:Nat):List UInt8:=(List.range 64).map fun i=>if i<n then k.getD i 0^^^ c else 0
def hkC (k:List UInt8):List UInt8:=if 64<k.length then shaS k else k
def hkS (k:List UInt8) (c:UInt8):List UInt8:=hkP (hkC k) c 64
theorem q9c (k:List UInt8) (c:UInt8) (n:Nat):(hkP k c n).length=64:=by simp [hkP]
theorem j2E (k:List UInt8) (c:UInt8) {i:Nat} (hi:i<64):(hkP k c i).set i (k.getD i 0^^^ c)=hkP k c (i+1):=by
 apply List.ext_getElem
 · simp [hkP]
 intro j h1 h2
 rw [List.getElem_set]
 simp only [hkP,List.getElem_map,List.getElem_range]
 split
 · subst_vars;rw [if_pos (by omega)]
 rename_i hne
 by_cases hj:j<i
 · rw [if_pos hj,if_pos (by omega)]
 rw [if_neg hj,if_neg (by omega)]
theorem z9G (k:List UInt8) (c:UInt8):hkP k c 0=List.replicate 64 0:=by
 unfold hkP
 rw [List.eq_replicate_iff]
 refine ⟨by rw [List.length_map,List.length_range],fun x hx=> ?_⟩
 obtain ⟨j,_,rfl⟩:=List.mem_map.1 hx
 exact if_neg (Nat.not_lt_zero _)
def dblS (b:UInt8):UInt8:=if 128≤b.toNat then (b<<<1) ^^^ 27 else b<<<1
theorem z6C {p:UInt8→Prop} (h:∀n:Fin 256,p (UInt8.ofNat n.val)) (b:UInt8):p b:=by
 have:=h ⟨b.toNat,b.toNat_lt⟩
 rwa [UInt8.ofNat_toNat] at this
theorem shl8 (b:UInt8):IntKind.u8.wrap ((b.toNat:Int)*2^ min 1 8)=((b<<<1).toNat:Int):=by
 rw [u8wrapR,UInt8.toNat_shiftLeft,Nat.shiftLeft_eq]
 have:(1:UInt8).toNat%8=1:=rfl
 rw [this,show ((2:Int) ^ min 1 8)=2 from rfl]
 omega
theorem xor27 (b:UInt8):xorK .u8 (b.toNat:Int) 27=((b^^^ 27).toNat:Int):=xor8 b 27
def mulA:Nat→Nat→UInt8→UInt8→UInt8
 |0,_,_,p=>p
 |n+1,a,b,p=>if a=0 then p else mulA n (a / 2) (dblS b) (if a%2=1 then p^^^ b else p)
def mulS (a b:UInt8):UInt8:=mulA 8 a.toNat b 0
theorem z4p (n:Nat) (b p:UInt8):mulA n 0 b p=p:=by
 cases n with
 |zero=>rfl
 |succ n=>exact if_pos rfl
theorem z6O {n a:Nat} (b p:UInt8) (h0:a≠0) (h:a<2^ n):∃m,a / 2<2^ m∧mulA n a b p=mulA m (a / 2) (dblS b) (if a%2=1 then p^^^ b else p):=by
 cases n with
 |zero=>simp at h;omega
 |succ n=>exact ⟨n,by rw [Nat.pow_succ] at h;omega,if_neg h0⟩
def fS (g:Nat→UInt8):List UInt8:=(List.range 16).map g
theorem q1F (g:Nat→UInt8):(fS g).length=16:=by simp [fS]
theorem q5V (g:Nat→UInt8) {i:Nat} (hi:i<16):(fS g).getD i 0=g i:=by
 simp [fS,List.getD_eq_getElem?_getD,hi]
def addS (b w:List UInt8) (r:Nat):List UInt8:=fS fun i=>b.getD i 0^^^ w.getD (16*r+i) 0
def mixA (b f:List UInt8) (c r:Nat):Nat→UInt8
 |0=>0
 |k+1=>mixA b f c r k^^^ mulS (f.getD ((k+4-r)%4) 0) (b.getD (4*c+k) 0)
def mixS (b f:List UInt8):List UInt8:=fS fun i=>mixA b f (i / 4) (i%4) 4
theorem q5U (b:UInt8):PC Tryz.prog 197 [.raw (.int .u8 b.toNat)] (.raw (.int .u8 (dblS b).toNat)):=by
 refine q0q rfl rfl ?_
 refine rQ fi197 ?_
 rw [shl8,xor27]
 unfold dblS
 exact ⟨fun h=>by rw [if_pos (by omega)],fun h=>by rw [if_neg (by omega)]⟩
theorem and1 {x:Nat} (hx:x<256):andK .u8 (x:Int) 1=((x%2:Nat):Int):=by
 have h:∀n:Fin 256,andK .u8 (n.val:Int) 1=((n.val%2:Nat):Int):=by decide
 exact h ⟨x,hx⟩
theorem z8P (a b:UInt8):PC Tryz.prog 199 [.raw (.int .u8 a.toNat),.raw (.int .u8 b.toNat)] (.raw (.int .u8 (mulS a b).toNat)):=by
 refine q0q rfl rfl ?_
 refine rQ fi199 ?_
 have ha:=a.toNat_lt
 obtain ⟨R,hR⟩:∃R,R=mulS a b:=⟨_,rfl⟩
 rw [←hR]
 refine q0i (ι:=Nat×UInt8×UInt8) (fun s=>[(0,.raw (.int .u8 s.1)),(1,.raw (.int .u8 s.2.1.toNat)),(4,.raw (.int .u8 s.2.2.toNat))]) (fun _=>[]) (fun s=>s.1) (fun s=>s.1<256∧∃n,s.1<2^ n∧R=mulA n s.1 s.2.1 s.2.2) (a.toNat,b,0) ⟨ha,8,ha,hR⟩ rfl ?_ ?_
 · with_reducible refine sxE ?_
   rfl
 rintro ⟨x,y,p⟩ ⟨hx,n,hn,hRn⟩
 dsimp only at*
 by_cases h0:x=0
 · subst h0
   rw [z4p] at hRn
   subst hRn
   refine gQ ?_;trivial
 have f1:((x:Int)=0)=False:=eq_false (by omega)
 obtain ⟨m,hm,hRm⟩:=z6O y p h0 hn
 rw [hRm] at hRn
 refine uQ 600 _ ?_
 simp (maxSteps:=3000000) only [f1,go_sem,↓zA,↓reduceIte,↓reduceDIte] <;>try simp only [zB]
 have e1:(x:Int).fdiv (2^ min 1 8)=((x / 2:Nat):Int):=by
  show (x:Int).fdiv 2=_
  rw [Int.fdiv_eq_ediv_of_nonneg _ (by decide)];omega
 rw [and1 hx]
 refine ⟨fun hb=>q0a (q5U y) ?_,fun hb=>q0a (q5U y) ?_⟩
 · rw [if_pos (by omega)] at hRn
   refine uQ 600 _ ?_
   simp (maxSteps:=3000000) only [e1,go_sem,↓zA,↓reduceIte,↓reduceDIte] <;>try simp only [zB]
   refine ⟨(x / 2,dblS y,p^^^ y),⟨by dsimp only;omega,m,hm,hRn⟩,by dsimp only;omega,rfl,?_⟩
   simp (maxSteps:=3000000) only [xor8,go_sem,↓zA,↓reduceIte,↓reduceDIte] <;>try simp only [zB]
 rw [if_neg (by omega)] at hRn
 refine uQ 600 _ ?_
 simp (maxSteps:=3000000) only [e1,go_sem,↓zA,↓reduceIte,↓reduceDIte] <;>try simp only [zB]
 refine ⟨(x / 2,dblS y,p),⟨by dsimp only;omega,m,hm,hRn⟩,by dsimp only;omega,rfl,?_⟩
 with_reducible refine sxE ?_;trivial
theorem q7u (i:Nat) (hi:i<16):PC Tryz.prog 190 [rI i] (rI ((4* (i / 4+i%4)+i%4)%16:Nat)):=by
 refine q0q rfl rfl ?_
 refine rQ fi190 ?_
 have h:∀n:Fin 16,((IntKind.i64.wrap (IntKind.i64.wrap (4*IntKind.i64.wrap (IntKind.i64.wrap (((n.val:Nat):Int).tdiv 4)+ ((n.val:Nat):Int).tmod 4))+ ((n.val:Nat):Int).tmod 4)).tmod 16)=(((4* (n.val / 4+n.val%4)+n.val%4)%16:Nat):Int):=by decide
 exact ⟨by decide,by decide,by decide,by decide,congrArg _ (h ⟨i,hi⟩)⟩
abbrev CipT:Ty:=.prod (.prod (.arr 256 .u8) (.arr 256 .u8)) (.prod (.arr 176 .u8) .bool)
abbrev PasT:Ty:=.prod (.ptr CipT) (.prod (.arr 16 .u8) (.arr 16 .u8))
def gP (b:List UInt8) (g:Nat→UInt8) (n:Nat):List UInt8:=(List.range 16).map fun j=>if j<n then g j else b.getD j 0
theorem q6w (b:List UInt8) (g:Nat→UInt8) (n:Nat):(gP b g n).length=16:=by simp [gP]
theorem q4G {b:List UInt8} (g:Nat→UInt8) (hb:b.length=16):gP b g 0=b:=by
 apply List.ext_getElem
 · rw [q6w,hb]
 intro j h1 h2
 simp [gP,List.getD_eq_getElem?_getD,List.getElem?_eq_getElem h2]
theorem q7M (b:List UInt8) (g:Nat→UInt8):gP b g 16=fS g:=by
 unfold gP fS
 exact List.map_congr_left fun i hi=>if_pos (List.mem_range.1 hi)
theorem z2F (b:List UInt8) (g:Nat→UInt8) {i n:Nat} (hi:i<16) (hn:n≤i):(gP b g n).getD i 0=b.getD i 0:=by
 simp only [gP,List.getD_eq_getElem?_getD,List.getElem?_map,List.getElem?_range hi,Option.map_some,Option.getD_some]
 rw [if_neg (by omega)]
theorem q7A (b:List UInt8) (g:Nat→UInt8) {i:Nat} (hi:i<16):(gP b g i).set i (g i)=gP b g (i+1):=by
 apply List.ext_getElem
 · simp [gP]
 intro j h1 h2
 rw [List.getElem_set]
 simp only [gP,List.getElem_map,List.getElem_range]
 split
 · subst_vars;rw [if_pos (by omega)]
 rename_i hne
 by_cases hj:j<i
 · rw [if_pos hj,if_pos (by omega)]
 rw [if_neg hj,if_neg (by omega)]
theorem z1Z (c:Option CipT.den) (b k:List UInt8) (hb:b.length=16) (hk:k.length=16):PE Tryz.prog 172 [.rptr 0 PasT 0 0] [.row PasT [(c,(b,k))]] (.ret (.tup [])) [.row PasT [(c,(addS b k 0,k))]]:=by
 refine q0d (Nat.le_refl _) ?_
 refine rQ fi172 ?_
 refine q0i (ι:=Nat) (fun i=>[(3,rI i)]) (fun i=>[.row PasT [(c,(gP b (fun j=>b.getD j 0^^^ k.getD j 0) i,k))]]) (fun i=>16-i) (fun i=>i≤16) 0 (Nat.zero_le _) (by rw [q4G _ hb]) ?_ fun i hi=> ?_
 · with_reducible refine sxE ?_;trivial
 have hwr:=wsx i (by omega)
 have hgl:=q6w b (fun j=>b.getD j 0^^^ k.getD j 0) i
 by_cases hlt:i<16
 · have f1:((i:Int) <16)=True:=eq_true (by omega)
   refine uQ 600 _ ?_
   have hgg:(gP b (fun j=>b.getD j 0^^^ k.getD j 0) i).getD i Ty.u8.dflt=b.getD i 0:=z2F _ _ hlt (Nat.le_refl _)
   have hkk:k.getD i Ty.u8.dflt=k.getD i 0:=rfl
   simp (maxSteps:=3000000) only [f1,hgl,hk,Nat.mul_one,hgg,hkk,xor8,Int.toNat_natCast,UInt8.ofNat_toNat,go_sem,↓zA,↓reduceIte,↓reduceDIte] <;>try simp only [zB]
   refine ⟨⟨by omega,hlt⟩,hlt,⟨by omega,hlt⟩,hlt,⟨by omega,hlt⟩,hlt,i+1,hlt,by show 16- (i+1) <16-i;omega,?_,?_⟩
   · dsimp only;rw [←q7A b (fun j=>b.getD j 0^^^ k.getD j 0) hlt]
   with_reducible refine sx1 hwr ?_;trivial
 obtain rfl:i=16:=by omega
 rw [q7M]
 refine uQ 600 _ ?_
 have f1:(((16:Nat):Int) <16)=False:=eq_false (by omega)
 simp (maxSteps:=3000000) only [f1,go_sem,↓zA,↓reduceIte,↓reduceDIte] <;>try simp only [zB]
 simp only [addS,Nat.mul_zero,Nat.zero_add]
theorem z4b (c:CipT.den) (x:UInt8):PC Tryz.prog 196 [.iptr CipT c 0,.raw (.int .u8 x.toNat)] (.raw (.int .u8 ((c.1.1:List UInt8).getD x.toNat 0).toNat)):=by
 refine q0q rfl rfl ?_
 refine rQ fi196 ?_
 have hx:=x.toNat_lt
 exact ⟨⟨by omega,hx⟩,rfl⟩
theorem q8p (c:CipT.den) (b k:List UInt8) (hb:b.length=16):PE Tryz.prog 186 [.rptr 0 PasT 0 0] [.row PasT [(some c,(b,k))]] (.ret (.tup [])) [.row PasT [(some c,(fS fun j=>(c.1.1:List UInt8).getD (b.getD j 0).toNat 0,k))]]:=by
 refine q0d (Nat.le_refl _) ?_
 refine rQ fi186 ?_
 refine q0i (ι:=Nat) (fun i=>[(3,rI i)]) (fun i=>[.row PasT [(some c,(gP b (fun j=>(c.1.1:List UInt8).getD (b.getD j 0).toNat 0) i,k))]]) (fun i=>16-i) (fun i=>i≤16) 0 (Nat.zero_le _) (by rw [q4G _ hb]) ?_ fun i hi=> ?_
 · with_reducible refine sxE ?_;trivial
 have hwr:=wsx i (by omega)
 have hgl:=q6w b (fun j=>(c.1.1:List UInt8).getD (b.getD j 0).toNat 0) i
 by_cases hlt:i<16
 · have f1:((i:Int) <16)=True:=eq_true (by omega)
   have hgg:(gP b (fun j=>(c.1.1:List UInt8).getD (b.getD j 0).toNat 0) i).getD i Ty.u8.dflt=b.getD i 0:=z2F _ _ hlt (Nat.le_refl _)
   refine uQ 600 _ ?_
   simp (maxSteps:=3000000) only [f1,hgl,Nat.mul_one,hgg,Option.getD_none,Ty.cells,go_sem,↓zA,↓reduceIte,↓reduceDIte] <;>try simp only [zB]
   refine ⟨⟨by omega,hlt⟩,hlt,q0f (z4b c (b.getD i 0)) ?_⟩
   refine uQ 600 _ ?_
   simp (maxSteps:=3000000) only [hgl,Nat.mul_one,Int.toNat_natCast,UInt8.ofNat_toNat,go_sem,↓zA,↓reduceIte,↓reduceDIte] <;>try simp only [zB]
   refine ⟨⟨by omega,hlt⟩,hlt,i+1,hlt,by show 16- (i+1) <16-i;omega,?_,?_⟩
   · dsimp only;rw [←q7A b (fun j=>(c.1.1:List UInt8).getD (b.getD j 0).toNat 0) hlt]
   with_reducible refine sx1 hwr ?_;trivial
 obtain rfl:i=16:=by omega
 rw [q7M]
 refine uQ 600 _ ?_
 have f1:(((16:Nat):Int) <16)=False:=eq_false (by omega)
 simp (maxSteps:=3000000) only [f1,go_sem,↓zA,↓reduceIte,↓reduceDIte] <;>try simp only [zB]
theorem z4t (c:CipT.den) (x:UInt8):PC Tryz.prog 191 [.iptr CipT c 0,.raw (.int .u8 x.toNat)] (.raw (.int .u8 ((c.1.2:List UInt8).getD x.toNat 0).toNat)):=by
 refine q0q rfl rfl ?_
 refine rQ fi191 ?_
 have hx:=x.toNat_lt
 exact ⟨⟨by omega,hx⟩,rfl⟩
theorem z3R (c:CipT.den) (b k:List UInt8) (hb:b.length=16):PE Tryz.prog 175 [.rptr 0 PasT 0 0] [.row PasT [(some c,(b,k))]] (.ret (.tup [])) [.row PasT [(some c,(fS fun j=>(c.1.2:List UInt8).getD (b.getD j 0).toNat 0,k))]]:=by
 refine q0d (Nat.le_refl _) ?_
 refine rQ fi175 ?_
 refine q0i (ι:=Nat) (fun i=>[(3,rI i)]) (fun i=>[.row PasT [(some c,(gP b (fun j=>(c.1.2:List UInt8).getD (b.getD j 0).toNat 0) i,k))]]) (fun i=>16-i) (fun i=>i≤16) 0 (Nat.zero_le _) (by rw [q4G _ hb]) ?_ fun i hi=> ?_
 · with_reducible refine sxE ?_;trivial
 have hwr:=wsx i (by omega)
 have hgl:=q6w b (fun j=>(c.1.2:List UInt8).getD (b.getD j 0).toNat 0) i
 by_cases hlt:i<16
 · have f1:((i:Int) <16)=True:=eq_true (by omega)
   have hgg:(gP b (fun j=>(c.1.2:List UInt8).getD (b.getD j 0).toNat 0) i).getD i Ty.u8.dflt=b.getD i 0:=z2F _ _ hlt (Nat.le_refl _)
   refine uQ 600 _ ?_
   simp (maxSteps:=3000000) only [f1,hgl,Nat.mul_one,hgg,Option.getD_none,Ty.cells,go_sem,↓zA,↓reduceIte,↓reduceDIte] <;>try simp only [zB]
   refine ⟨⟨by omega,hlt⟩,hlt,q0f (z4t c (b.getD i 0)) ?_⟩
   refine uQ 600 _ ?_
   simp (maxSteps:=3000000) only [hgl,Nat.mul_one,Int.toNat_natCast,UInt8.ofNat_toNat,go_sem,↓zA,↓reduceIte,↓reduceDIte] <;>try simp only [zB]
   refine ⟨⟨by omega,hlt⟩,hlt,i+1,hlt,by show 16- (i+1) <16-i;omega,?_,?_⟩
   · dsimp only;rw [←q7A b (fun j=>(c.1.2:List UInt8).getD (b.getD j 0).toNat 0) hlt]
   with_reducible refine sx1 hwr ?_;trivial
 obtain rfl:i=16:=by omega
 rw [q7M]
 refine uQ 600 _ ?_
 have f1:(((16:Nat):Int) <16)=False:=eq_false (by omega)
 simp (maxSteps:=3000000) only [f1,go_sem,↓zA,↓reduceIte,↓reduceDIte] <;>try simp only [zB]
end Go.Proofs.YtikapabgggphpaaGreatDoor
