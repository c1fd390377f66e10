/- SHA-256: contracts: the program's block over the hash within a keyed hash, whose rest is the block. -/
import Derived.Test.YtmapiojgmbgbgaaGreatDoorQ25
import Derived.RangeFuncRecord
set_option linter.all false
namespace Go.Proofs.YtmapiojgmbgbgaaGreatDoor
open Go Go.Sx Go.Proofs
set_option maxRecDepth 100000
set_option maxHeartbeats 40000000
theorem j5L(b:List UInt8)(ks:List UInt8×List UInt8)(n:Int)(rd:Bool)(h:List Int)(hb:b.length=64)(hh:inWs h):PE Tryz.prog 282 [.rptr 0 MH 0 128,.csl 0 .u8 136 0 64] [.row MH [(ks,((h,(b,n)),rd))]] (.ret (.tup [])) [.row MH [(ks,(((blkS b h),(b,n)),rd))]]:=by
 refine q0b (Ag _) ?_;refine rQ fi282 ?_;refine q0i (ι:=Nat) (fun t=>[(26,rI t)]) (fun t=>[.row MH [(ks,((h,(b,n)),rd))],.row (.int .u32) (wL b t)]) (fun t=>16-t) (fun t=>t≤16) 0 (Ak _) (by rw [q5Y];rfl) ?_ ?_
 · with_reducible refine sxE ?_;trivial
 intro t ht;have hwr:=wsx t (by omega)
 have hwl:=q3P b t;by_cases hlt:t<16
 · have w1:IntKind.i64.wrap (4* (t:Int))=((4*t:Nat):Int):=by rw [wrapi (by omega)];omega
   have w4:IntKind.i64.wrap (((4*t:Nat):Int)+4)=((4*t+4:Nat):Int):=by rw [wrapi (by omega)];omega
   refine gy4 w1 w4 hwl Ab ?_;have hdl:(List.drop (4*t) (List.take (4*t+4) b)).length=4:=by rw [Al,Av];omega
   refine ⟨fun _=> ?_,fun h=>absurd h (by omega)⟩
   repeat (with_reducible refine And.intro (by first|omega|exact ⟨by omega,by omega,by omega,by omega⟩ |exact ⟨by omega,by omega⟩) ?_)
   refine ⟨t+1,by show t+1≤16;omega,by dsimp only;omega,?_,?_⟩
   · have hd:∀j,j<4→(List.drop (4*t) (List.take (4*t+4) b)).getD j Ty.u8.dflt=b.getD (4*t+j) 0:=fun j hj=>by
      rw [Ad,AG,BE (by omega),←Ad]
      rfl
     have ho:=or4 fun j=>b.getD (4*t+j) Ty.u8.dflt;rw [ho];have hw:((256* (256* (256* (b.getD (4*t+0) 0).toNat+ (b.getD (4*t+1) 0).toNat)+ (b.getD (4*t+2) 0).toNat)+ (b.getD (4*t+3) 0).toNat:Nat):Int)=wS b t:=by
      rw [z2t hlt];simp only [wdP,byI];omega
     show [SObj.row MH [(ks,((h,(b,n)),rd))],SObj.row (.int .u32) ((wL b t).set t ((256* (256* (256* (b.getD (4*t+0) 0).toNat+ (b.getD (4*t+1) 0).toNat)+ (b.getD (4*t+2) 0).toNat)+ (b.getD (4*t+3) 0).toNat:Nat):Int))]= [SObj.row MH [(ks,((h,(b,n)),rd))],SObj.row (.int .u32) (wL b (t+1))];rw [hw,q3Q b (by omega)]
   with_reducible refine sx1 hwr ?_;trivial
 obtain rfl:t=16:=by omega
 refine gy2 hwl Ab ?_;refine ⟨fun h=>absurd h (by omega),fun _=> ?_⟩
 refine q2n (ι:=Nat) (fun t=>[(7,rI t)]) (fun t=>[.row MH [(ks,((h,(b,n)),rd))],.row (.int .u32) (wL b t)]) (fun t=>64-t) (fun t=>16≤t∧t≤64) 16 (by decide) 2 rfl (by decide) (fun _=>rfl) (fun _=>rfl) (fun _=>rfl) ?_ ?_
 · with_reducible refine sxE ?_
   rfl
 intro t ht;have hwl:=q3P b t;have hwr:=wsx t (by omega)
 by_cases hlt:t<64
 · have e15:IntKind.i64.wrap ((t:Int) -15)=((t-15:Nat):Int):=by rw [wrapi (by omega)];omega
   have e2:IntKind.i64.wrap ((t:Int) -2)=((t-2:Nat):Int):=by rw [wrapi (by omega)];omega
   have e7:IntKind.i64.wrap ((t:Int) -7)=((t-7:Nat):Int):=by rw [wrapi (by omega)];omega
   have e16:IntKind.i64.wrap ((t:Int) -16)=((t-16:Nat):Int):=by rw [wrapi (by omega)];omega
   have g15:=q1b b (t:=t) (j:=t-15) (by omega) (by omega)
   have g2:=q1b b (t:=t) (j:=t-2) (by omega) (by omega)
   have g7:=q1b b (t:=t) (j:=t-7) (by omega) (by omega)
   have g16:=q1b b (t:=t) (j:=t-16) (by omega) (by omega)
   have i15:=q2w b (t-15);have i2:=q2w b (t-2);have i7:=q2w b (t-7);have i16:=q2w b (t-16);refine gyd10 e15 e2 e7 e16 g15 g2 g7 g16 hwl Ab ?_;refine ⟨fun _=>⟨⟨by omega,by omega⟩,by omega,⟨by omega,by omega⟩,by omega,⟨by omega,by omega⟩,by omega,⟨by omega,by omega⟩,by omega,q0q (q0T (wS b (t-2)) [17,19] i2 (by decide) (by decide)) ?_⟩,fun h=>absurd hlt (by omega)⟩
   refine gQ ?_;refine q0A 2 (by decide) ?_
   with_reducible refine sxE ?_
   refine q0d (q0T (wS b (t-15)) [7,18] i15 (by decide) (by decide)) ?_
   refine uQ 600 _ ?_;simp (maxSteps:=3000000) only [e15,e2,e7,e16,g15,g2,g7,g16,hwl,Ab,Ty.dflt,go_sem,↓zA,↓reduceIte,↓reduceDIte] <;>try simp only [zB]
   repeat (with_reducible refine And.intro (by first|omega|exact ⟨by omega,by omega⟩) ?_)
   refine ⟨t+1,⟨by omega,hlt⟩,by dsimp only;omega,⟨[.dead],?_⟩,?_⟩
   · rw [schU i15 i2,←z2G (by omega),q3Q b hlt]
     rfl
   with_reducible refine sx1 hwr ?_;trivial
 obtain rfl:t=64:=by omega
 refine gQ ?_;have hl:=hh.1;refine ⟨fun h=>absurd h (by omega),fun _=> ?_⟩
 repeat (with_reducible refine And.intro (by omega) ?_)
 refine q3R (t:=.arr 64 (.int .u32)) (x:=dat_sha_constants) (ag:=some 64) (s:=.dat (.arr 64 (.int .u32)) dat_sha_constants) (by unfold datList;repeat (first|exact .head _|apply List.Mem.tail)) rfl (.inr rfl) ?_
 refine gQ ?_;refine q2n (ι:=Nat) (fun t=>[(134,rI t),(12,.raw (.int .u32 ((rnds b h t).getD 0 0))),(13,.raw (.int .u32 ((rnds b h t).getD 1 0))),(14,.raw (.int .u32 ((rnds b h t).getD 2 0))),(15,.raw (.int .u32 ((rnds b h t).getD 3 0))),(16,.raw (.int .u32 ((rnds b h t).getD 4 0))),(17,.raw (.int .u32 ((rnds b h t).getD 5 0))),(18,.raw (.int .u32 ((rnds b h t).getD 6 0))),(19,.raw (.int .u32 ((rnds b h t).getD 7 0)))]) (fun t=>[.row MH [(ks,((h,(b,n)),rd))],.row (.int .u32) (wL b 64)]) (fun t=>64-t) (fun t=>t≤64) 0 (Ak _) 2 rfl (by decide) (fun _=>rfl) (fun _=>rfl) (fun _=>rfl) ?_ ?_
 · with_reducible refine sxE ?_
   exact ⟨rfl,rfl,rfl,rfl,rfl,rfl,rfl,rfl⟩
 intro t ht;have hwr:=wsx t (by omega)
 by_cases hlt:t<64
 · have hv:=q1r (b:=b) hh t;generalize hvv:rnds b h t=v at*;have i0:=q0c hv 0 (by decide)
   have i1:=q0c hv 1 (by decide)
   have i2:=q0c hv 2 (by decide)
   have i3:=q0c hv 3 (by decide)
   have i4:=q0c hv 4 (by decide)
   have i5:=q0c hv 5 (by decide)
   have i6:=q0c hv 6 (by decide)
   have i7:=q0c hv 7 (by decide)
   refine gyd3 hl hwl Ab ?_;refine ⟨fun _=>⟨⟨by omega,by omega⟩,⟨by omega,by omega⟩,by omega,?_⟩,fun h=>absurd hlt (by omega)⟩
   refine q0A 2 (by decide) ?_
   with_reducible refine sxE ?_
   refine q0d (q0T _ [6,11,25] i4 (by decide) (by decide)) ?_
   refine gyd3 hl hwl Ab ?_;refine q0d (q5g _ _ _ i4 i5 i6) ?_;refine gyd3 hl hwl Ab ?_;refine q0m 3 ?_;with_reducible refine sxE ?_
   refine cyd3 (q0T _ [2,13,22] i0 (by decide) (by decide)) hl hwl Ab ?_
   refine cyd3 (q3q _ _ _ i0 i1 i2) hl hwl Ab ?_;have hr:rnds b h (t+1)=rnd (kS t) (wS b t) v:=by show rnd (kS t) (wS b t) (rnds b h t)=_;rw [hvv]
   have hT1:=t1U (k:=kS t) (w:=wS b t) hv;have hT2:=t2U hv;refine ⟨t+1,hlt,by dsimp only;omega,⟨[.dead,.dead],rfl⟩,?_⟩
   rw [z1d,q1b b hlt hlt,hT1,hT2,aU,eU];with_reducible refine sy2 hwr hr ?_
   exact ⟨rfl,rfl,rfl,rfl,rfl,rfl,rfl,rfl⟩
 obtain rfl:t=64:=by omega
 refine gyd3 hl hwl Ab ?_;refine ⟨fun h=>absurd h (by omega),fun _=> ?_⟩
 have e8:=list8 (q1r (b:=b) hh 64).1;refine q0i (ι:=Nat) (fun i=>[(186,rI i),(185,.dat (.arr 8 (.int .u32)) (rnds b h 64))]) (fun i=>[.row MH [(ks,(((blkP b h i),(b,n)),rd))],.row (.int .u32) (wL b 64)]) (fun t=>8-t) (fun t=>t≤8) 0 (Ak _) ?_ ?_ ?_
 · rw [q3g b hh.1]
 · with_reducible refine sxE ?_
   exact congrArg (SV.dat (.arr 8 (.int .u32))) e8
 intro i hi;have hwr:=wsx i (by omega)
 have hv:=q1r (b:=b) hh 64;have hl:=hv.1;have hbl:=q4y b h i;by_cases hlt:i<8
 · have hbg:=q4u b h hlt;refine gyd4 hl hbl Ab AP ?_;refine ⟨fun _=> ?_,fun h=>absurd hlt (by omega)⟩
   repeat (with_reducible refine And.intro (by first|omega|exact ⟨by omega,by omega⟩) ?_)
   refine ⟨i+1,hlt,by dsimp only;omega,?_,?_⟩
   · rw [hbg,wrapU];show [_,_]= [SObj.row MH [(ks,(((blkP b h (i+1)),(b,n)),rd))],_];rw [←q4E b h hlt]
   with_reducible refine sx1 hwr ?_;trivial
 obtain rfl:i=8:=by omega
 refine gyd3 hl hbl Ab ?_;refine ⟨fun h=>absurd h (by omega),fun _=> ?_⟩
 rw [q4n]
end Go.Proofs.YtmapiojgmbgbgaaGreatDoor
namespace Go.Sx
open Go

variable {P:Program}

def Ty.bare:Ty→Bool
 |.slice _=>false
 |.ptr _=>false
 |.clo _ _=>false
 |.clp _ _=>false
 |.mbs _=>false
 |.prod a b=>a.bare&& b.bare
 |.arr _ t=>t.bare
 |_=>true
theorem q5H{I I':Nat→Prop}{w w':World}:∀ (t:Ty) (x:t.den) (vs:List Value),t.bare=true→t.rel I w x vs→t.rel I' w' x vs
 |.u8,_,_,_,h=>h
 |.int _,_,_,_,h=>h
 |.bool,_,_,_,h=>h
 |.str,_,_,_,h=>h
 |.slice _,_,_,hb,_=>by cases hb
 |.prod a b,x,vs,hb,h=>by
  simp only [Ty.bare,Aj] at hb;obtain ⟨v1,v2,rfl,h1,h2⟩:=h;exact ⟨v1,v2,rfl,q5H a _ _ hb.1 h1,q5H b _ _ hb.2 h2⟩
 |.unit,_,_,_,h=>h
 |.arr n t,xs,vs,hb,h=>by
  obtain ⟨hn,vss,rfl,hl,h⟩:=h;exact ⟨hn,vss,rfl,hl,fun i x us hx hu=>q5H t _ _ hb (h i x us hx hu)⟩
 |.ptr _,_,_,hb,_=>by cases hb
 |.clo _ _,_,_,hb,_=>by cases hb
 |.clp _ _,_,_,hb,_=>by cases hb
 |.mbs _,_,_,hb,_=>by cases hb
def SObj.bare:SObj→Bool
 |.dead=>true
 |.row t _=>t.bare
 |_=>false
theorem z3U{C C':Cx}{h:Nat}:∀ {o:SObj},o.bare=true→C'.ρ h=C.ρ h→(o.live=true→∀b,C.ρ h=some b→C'.w.heap[b]?=C.w.heap[b]?)→objDen C h o→objDen C' h o
 |.dead,_,_,_,_=>trivial
 |.row t xs,hb,hr,hw,d=>by
  rcases d with ⟨h1,h2⟩ | ⟨b,arr,T,fz,h1,h2,h3,h4,h5⟩
  · exact .inl ⟨hr.trans h1,h2⟩
  refine .inr ⟨b,arr,T,fz,hr.trans h1,(hw rfl b h1).trans h2,h3,h4,fun i x hx=> ?_⟩;obtain ⟨us,g1,g2⟩:=h5 i x hx;exact ⟨us,q5H t _ _ hb g1,fun k u hu=>by rw [←g2 k u hu];exact World.cell?_of_block (hw rfl b h1)⟩
 |.cells ..,hb,_,_,_=>by cases hb
 |.map ..,hb,_,_,_=>by cases hb
 |.mark _,hb,_,_,_=>by cases hb
mutual
def SV.bare:SV→Bool
 |.raw _=>true
 |.dat t _=>t.bare
 |.agg l=>SV.bareL l
 |.tup l=>SV.bareL l
 |.any=>true
 |_=>false
def SV.bareL:List SV→Bool
 | []=>true
 |s :: l=>s.bare&& SV.bareL l
end
mutual
theorem z4q{C C':Cx}:∀ {s:SV} {v:Value},s.bare=true→s.den C v→s.den C' v
 |.any,_,_,_=>by rw [SV.den];trivial
 |.raw u,v,_,h=>by rw [SV.den] at h⊢;exact h
 |.dat t x,v,hb,h=>by
  rw [SV.den] at h⊢;obtain ⟨vs,hv,hr⟩:=h;exact ⟨vs,hv,q5H t _ _ (by simpa [SV.bare] using hb) hr⟩
 |.agg l,v,hb,h=>by
  rw [SV.den] at h⊢;obtain ⟨vs,hv,hr⟩:=h;exact ⟨vs,hv,q7A (by simpa [SV.bare] using hb) hr⟩
 |.tup l,v,hb,h=>by
  rw [SV.den] at h⊢;obtain ⟨vs,hv,hr⟩:=h;exact ⟨vs,hv,q7A (by simpa [SV.bare] using hb) hr⟩
 |.isl ..,_,hb,_=>by simp [SV.bare] at hb
 |.fsl ..,_,hb,_=>by simp [SV.bare] at hb
 |.iptr ..,_,hb,_=>by simp [SV.bare] at hb
 |.ptr ..,_,hb,_=>by simp [SV.bare] at hb
 |.rptr ..,_,hb,_=>by simp [SV.bare] at hb
 |.bld ..,_,hb,_=>by simp [SV.bare] at hb
 |.osl ..,_,hb,_=>by simp [SV.bare] at hb
 |.csl ..,_,hb,_=>by simp [SV.bare] at hb
 |.fn ..,_,hb,_=>by simp [SV.bare] at hb
 |.iface ..,_,hb,_=>by simp [SV.bare] at hb
 |.mp ..,_,hb,_=>by simp [SV.bare] at hb
 |.imap ..,_,hb,_=>by simp [SV.bare] at hb
theorem q7A{C C':Cx}:∀ {l:List SV} {vs:List Value},SV.bareL l=true→SV.denL C l vs→SV.denL C' l vs
 | [],_,_,h=>by rw [SV.denL] at h⊢;exact h
 |s :: l,_,hb,h=>by
  rw [SV.denL] at h⊢;simp only [SV.bareL,Aj] at hb;obtain ⟨v,us,rfl,h1,h2⟩:=h;exact ⟨v,us,rfl,z4q hb.1 h1,q7A hb.2 h2⟩
end

def RLies(t:Ty)(xs:List t.den)(off:Nat)(t2:Ty)(y:t2.den):Prop:=
 (∃x,xs= [x]∧t.get x off t2.size=some ⟨t2,y⟩)∨(t2= .arr xs.length t∧off=0∧t.size=1∧0<xs.length∧HEq y xs)
inductive Bor (h:Nat) (t:Ty) (xs:List t.den):SV→SV→Prop where
 |keep {s:SV} (hb:s.bel h=true):Bor h t xs s s
 |bld {n:Nat} (hn:n≤xs.length):Bor h t xs (.bld h t n) (.isl t (xs.take n))
 |osl {off n:Nat} (hn:off+n≤xs.length):Bor h t xs (.osl h t off n) (.isl t ((xs.drop off).take n))
 |csl {e:Ty} {k i n:Nat} {ys:List e.den} {p:Prop} (ho:ownPart e k i n (.row t xs)=some (ys,p)) (hp:p) (hn:n≤1125899906842624):Bor h t xs (.csl h e k i n) (.isl e ys)
 |ptr {t' t2:Ty} {i k:Nat} {y:t2.den} (hr:RLies t xs (i*t'.size+k) t2 y):Bor h t xs (.rptr h t' i k) (.iptr t2 y 0)
inductive BorL (h:Nat) (t:Ty) (xs:List t.den):List SV→List SV→Prop where
 |nil:BorL h t xs [] []
 |cons {s s':SV} {l l':List SV} (h1:Bor h t xs s s') (h2:BorL h t xs l l'):BorL h t xs (s :: l) (s' :: l')

variable {H:List SObj}
theorem rlies{C:Cx}{h off:Nat}{t t2:Ty}{xs:List t.den}{y:t2.den}(hw:Wd C H)(hH:H[h]?=some (.row t xs))(hr:RLies t xs off t2 y):∃b,C.ρ h=some b∧Lies C.I C.w b off t2 y:=by
 rcases hr with ⟨x,rfl,hg⟩ | ⟨e,rfl,hs,hl,hy⟩
 · obtain ⟨b,hb,h1⟩:=q2d (i:=0) hw hH rfl;rw [Bh] at h1;have h2:=(z1r t hg h1).1;rw [Ab] at h2;exact ⟨b,hb,h2⟩
 subst e;cases hy;obtain ⟨b,hb,h1⟩:=q9D (i:=0) (m:=xs.length) hw hH hs (by omega) hl
 rw [As,AA] at h1;exact ⟨b,hb,h1⟩
theorem j2Z{C:Cx}{h:Nat}{t:Ty}{xs:List t.den}(hw:Wd C H)(hH:H[h]?=some (.row t xs))(hlen:xs.length≤1125899906842624){s s':SV}{v:Value}(hb:Bor h t xs s s')(hd:s.den C v):s'.den {C.frz h with n:=h} v:=by
 have hk:Keeps C.I (C.frz h).I C.w C.w:=fun b hb=>⟨.inl hb,rfl⟩;cases hb with
 |keep hb=>
  have h1:=q9w (σ:=fun h=>h) hb (by rw [z3K];exact hd)
  exact q1i (C:=C.ren (fun h=>h) h) (C':={C.frz h with n:=h}) ⟨Ag _,fun _ _=>rfl,fun b (hb:C.I b)=>⟨Or.inl hb,rfl⟩,fun _ _ h=>h⟩ h1
 |bld hn=>
  have:=q6i hw hH hlen (off:=0) (by omega) (q6z hd)
  rw [As] at this;exact q0K (C:=C.frz h) (Keeps.refl _ _) rfl this
 |osl hn=>exact q0K (C:=C.frz h) (Keeps.refl _ _) rfl (q6i hw hH hlen hn hd)
 |csl ho hp hn=>
  rename_i e k i n ys p;obtain ⟨h1,h2⟩:=q9h hw hH ho hp;simp only [SV.den] at hd;obtain ⟨_,A,c,rfl,hc,hd⟩:=hd;rw [SV.den.eq_def];refine ⟨A,n,c,rfl,h1.symm,hc,hn,?_⟩;rcases hd with h0| ⟨b,hb,rfl⟩
  · exact .inl (A2.1 (h1.trans h0))
  refine .inr ⟨b,_,rfl,.inr hb,fun j y hy=> ?_⟩;obtain ⟨us,g1,g2⟩:=h2 b hb j y hy;exact ⟨us,Ty.rel_keep hk _ _ _ g1,g2⟩
 |ptr hr=>
  obtain ⟨b,hb,us,g1,g2⟩:=rlies hw hH hr;obtain ⟨b',hb',rfl⟩:=q3V hd;rw [hb] at hb';cases hb';rw [SV.den.eq_def];exact ⟨b,_,us,rfl,.inr hb,Ty.rel_keep hk _ _ _ g1,g2⟩
theorem j1d{C:Cx}{h:Nat}{t:Ty}{xs:List t.den}(hw:Wd C H)(hH:H[h]?=some (.row t xs))(hlen:xs.length≤1125899906842624){l l':List SV}(hb:BorL h t xs l l'):∀ {vs:List Value},SV.denL C l vs→SV.denL {C.frz h with n:=h} l' vs:=by
 induction hb with
 |nil=>intro vs hd;rw [SV.denL] at hd⊢;exact hd
 |cons h1 _ ih=>
  intro vs hd;rw [SV.denL] at hd⊢;obtain ⟨v,us,rfl,d1,d2⟩:=hd;exact ⟨v,us,rfl,j2Z hw hH hlen h1 d1,ih d2⟩
theorem z4M{l:List SObj}(h:l.all SObj.bare=true){i:Nat}{o:SObj}(ho:l[i]?=some o):o.bare=true:=A3.1 h o (Br ho)
theorem q9i{f:FuncId}{args args':List SV}{H0 H1:List SObj}{s:SV}{t:Ty}{xs:List t.den}(hp:VCall P f args' H0 fun o' H'=>o'= .ret s∧H'=H1)(hl:H1.length=H0.length)(hb0:H0.all SObj.bare=true)(hb1:H1.all SObj.bare=true)(hs:s.bare=true)
 (hlen:xs.length≤1125899906842624)(hb:BorL H0.length t xs args args'):VCall P f args (H0++ [.row t xs]) fun o' H'=>o'= .ret s∧H'=H1++ [.row t xs]:=by
 intro C vs hw ht hv;have hH:(H0++ [SObj.row t xs])[H0.length]?=some (.row t xs):=by rw [Ao (Ag _)];simp
 have hn:C.n=H0.length+1:=by rw [hw.n];simp
 have hget:∀ {i o},H0[i]?=some o→(H0++ [SObj.row t xs])[i]?=some o:=fun hi=>by rw [Ah (Af.1 hi).1];exact hi
 have hown0:∀b,OwnB {C.frz H0.length with n:=H0.length} H0 b→OwnB C (H0++ [.row t xs]) b∧C.ρ H0.length≠some b:=by
  rintro b ⟨i,o,ho,hlv,hbb⟩;refine ⟨⟨i,o,hget ho,hlv,hbb⟩,fun e=> ?_⟩;have:=hw.inj i H0.length o _ b (hget ho) hH hlv rfl hbb e;have:=(Af.1 ho).1;omega
 have hwb:Wd {C.frz H0.length with n:=H0.length} H0:=by
  refine ⟨rfl,fun i o ho=>z3U (C:=C) (z4M hb0 ho) rfl (fun _ _ _=>rfl) (hw.obj i o (hget ho)),fun b hb'=> ?_,fun i j o o' b ho ho' hlv hlv' h1 h2=>hw.inj i j o o' b (hget ho) (hget ho') hlv hlv' h1 h2,fun b hb'=> ?_⟩
  · obtain ⟨h1,h2⟩:=hown0 b hb';exact ⟨fun h=>h.elim (hw.own b h1).1 h2,(hw.own b h1).2⟩
  exact hb'.elim (hw.imm b) fun h=>(hw.own b ⟨_,_,hH,rfl,h⟩).2
 refine (hp {C.frz H0.length with n:=H0.length} vs hwb (ht.sub rfl (fun b hb'=>.inl hb') fun b hb'=>(hown0 b hb').1) (j1d hw hH hlen hb hv)).mono ?_
 rintro e w' ⟨o,H',C',⟨rfl,rfl⟩,rfl,hw',hx,v,rfl,hd⟩;have hρ:∀i,i<H0.length→C'.ρ i=C.ρ i:=fun i hi=>hx.evo.ρ i hi
 let D:Cx:={ρ:=C.ρ,n:=H0.length+1,I:=fun b=>C'.I b∧C.ρ H0.length≠some b,w:=C'.w}
 have hK:Keeps C.I D.I C.w C'.w:=fun b hb'=>⟨⟨(hx.evo.I b (.inl hb')).1,fun e=>(hw.own b ⟨_,_,hH,rfl,e⟩).1 hb'⟩,(hx.evo.I b (.inl hb')).2⟩;have hevo:Evo C D:=⟨by rw [hn];exact Ag _,fun _ _=>rfl,hK,hx.evo.sz⟩
 have hcase:∀ {i oo},(H'++ [SObj.row t xs])[i]?=some oo→(i<H0.length∧H'[i]?=some oo)∨(i=H0.length∧oo= .row t xs):=fun {i oo} hi=>by
  rcases AC i H'.length with h1|h1
  · rw [Ah h1] at hi;exact .inl ⟨by omega,hi⟩
  rw [Ao h1] at hi;have:i-H'.length=0:=by
   have:=(Af.1 hi).1;simpa using this
  rw [this] at hi;exact .inr ⟨by omega,by simpa using hi.symm⟩
 have hlast:∀b,C.ρ H0.length=some b→C'.I b:=fun b hb'=>(hx.evo.I b (.inr hb')).1;have hownD:∀b,OwnB D (H'++ [.row t xs]) b→OwnB C' H' b∨C.ρ H0.length=some b:=by
  rintro b ⟨i,oo,ho,hlv,hbb⟩;rcases hcase ho with ⟨h1,h2⟩ | ⟨rfl,_⟩
  · exact .inl ⟨i,oo,h2,hlv,(hρ i h1).trans hbb⟩
  exact .inr hbb
 refine ⟨.ret s,_,D,⟨rfl,rfl⟩,rfl,⟨?_,fun i oo ho=> ?_,fun b hb'=> ?_,fun i j oo oo' b ho ho' hlv hlv' h1 h2=> ?_,fun b hb'=>hw'.imm b hb'.1⟩,
  ⟨hevo,hx.size,hx.os,hx.tape,hx.output,fun b h1 h2=>hx.frame b h1 fun hq=>h2 (hown0 b hq).1,fun b hb'=> ?_,fun b hb'=> ?_,fun n _ hn'=> ?_⟩,v,rfl,z4q hs hd⟩
 · show H0.length+1=_;simp [hl]
 · rcases hcase ho with ⟨h1,h2⟩ | ⟨rfl,rfl⟩
   · exact z3U (C:=C') (C':=D) (z4M hb1 h2) (hρ i h1).symm (fun _ _ _=>rfl) (hw'.obj i oo h2)
   exact q0H (C':=D) hK _ rfl (fun b hb'=>(hx.evo.I b (.inr hb')).2) (q0j hevo) (hw.obj _ _ hH)
 · rcases hownD b hb' with h1|h1
   · exact ⟨fun h=>(hw'.own b h1).1 h.1,(hw'.own b h1).2⟩
   exact ⟨fun h=>h.2 h1,hw'.imm b (hlast b h1)⟩
 · rcases hcase ho with ⟨g1,g2⟩ | ⟨rfl,rfl⟩ <;>rcases hcase ho' with ⟨g1',g2'⟩ | ⟨rfl,rfl⟩
   · exact hw'.inj i j oo oo' b g2 g2' hlv hlv' ((hρ i g1).trans h1) ((hρ j g1').trans h2)
   · exact absurd (hlast b h2) (hw'.own b ⟨i,oo,g2,hlv,(hρ i g1).trans h1⟩).1
   · exact absurd (hlast b h1) (hw'.own b ⟨j,oo',g2',hlv',(hρ j g1').trans h2⟩).1
   rfl
 · rcases hx.immNew b hb'.1 with (q|q) | ⟨q|q,u⟩
   · exact .inl q
   · exact absurd q hb'.2
   · exact .inr ⟨.inl q,u⟩
   exact .inr ⟨.inr (hown0 b q).1,u⟩
 · rcases hownD b hb' with h1|h1
   · exact orMap (hx.ownNew b h1) id fun q=>(hown0 b q).1
   exact .inr ⟨_,_,hH,rfl,h1⟩
 exfalso;cases H0 with
 |nil=>simp at hn'
 |cons o l=>
  simp at hn';subst hn';simp [SObj.bare] at hb0
theorem z3p{f:FuncId}{args args':List SV}{H0 H1:List SObj}{s:SV}{t:Ty}{xs:List t.den}(hp:PE P f args' H0 (.ret s) H1)(hl:H1.length=H0.length)(hb0:H0.all SObj.bare=true)(hb1:H1.all SObj.bare=true)(hs:s.bare=true)
 (hlen:xs.length≤1125899906842624)(hb:BorL H0.length t xs args args'):PE P f args (H0++ [.row t xs]) (.ret s) (H1++ [.row t xs]):=⟨hp.1,q9i hp.2 hl hb0 hb1 hs hlen hb⟩
theorem q6W{f:FuncId}{args args':List SV}{s:SV}{t:Ty}{xs:List t.den}(hp:PC P f args' s)(hs:s.bare=true)(hlen:xs.length≤1125899906842624)(hb:BorL 0 t xs args args'):PE P f args [.row t xs] (.ret s) [.row t xs]:=
 ⟨hp.1,q9i (H0:=[]) (H1:=[]) (hp.2 [] _ ⟨rfl,rfl⟩) rfl rfl rfl hs hlen hb⟩
theorem z6N{α:Type}(x:α):Option.getD (none:Option α) x=x:=rfl
theorem z6l{α:Type}(x y:α):Option.getD (some y) x=y:=rfl
theorem j2U{t:Ty}{x y:t.den}:SV.leA (.dat t x) (.dat t y)=(x=y):=by simp [SV.leA]
theorem z9N{t t':Ty}{h i k h' i' k':Nat}:SV.leA (.rptr h t i k) (.rptr h' t' i' k')=(h=h'∧t=t'∧i=i'∧k=k'):=by simp [SV.leA]
attribute [go_sem] z6N z6l j2U z9N
end Go.Sx
namespace Go.Sx
open Go

variable {P:Program} {AQ:Ex→List SV→List SObj→Prop} {k0:Nat} {k:List It} {t:List SV} {H:List SObj}

@[reducible] def frzN(q:Nat→Prop)(w0:World)(N:Nat):Ghost where
 inv0:=fun E C H=>(E.C.w.heap.size≤N∧∀b,TBlk b→b<N)∧ZInv q w0 C H
 fin:=fun E _ _ ds=>ds=E.base∧True
 toFin0:=fun _ _=>⟨rfl,trivial⟩
 next0:=fun {E _ _ _ _} hx h=>⟨h.1,(frzG q w0).next0 (E:=E) hx h.2⟩
 same0:=fun {E _ _ _ _} hw e hk hi ho hm hl h=>⟨h.1,(frzG q w0).same0 (E:=E) hw e hk hi ho hm hl h.2⟩

theorem q6J{Q Q':Exit→Act→World→Prop}(hq:∀e a w,Q e a w→Q' e a w)(h:LetsOut Q):LetsOut Q':=by
 obtain ⟨a,w,h⟩:=h;exact ⟨a,w,hq _ _ _ h⟩
theorem z5W{F:Fence}{n:Nat}{o:Oper}{a:Act}{w:World}{K K':Act→World→Prop}{Q Q':Exit→Act→World→Prop}(h:∀a w,K a w→K' a w)(hq:∀e a w,Q e a w→Q' e a w)
 (hh:o.wpIn F n P a w K Q):o.wpIn F n P a w K' Q':=by
 unfold Oper.wpIn at*;refine ⟨hh.1,?_⟩;have hh:=hh.2;generalize (o.semAt F.round a.eval).run P w=r at*;cases r with
 |ok x w'=>
  cases x<;>simp only [Oper.uponIn] at hh⊢ <;>
   first
    |exact h _ _ hh
    |exact ⟨hh.1,CallsIn.mono hh.2 (fun e w'' he=>by cases e<;>first|exact h _ _ he|exact hq _ _ _ he|exact q6J hq he)⟩
    |exact ⟨hh.1,RowsIn.mono hh.2 (fun _ _ he=>h _ _ he)⟩
    |exact ⟨hh.1,RoundIn.mono hh.2 (fun e w'' he=>by cases e<;>first|exact h _ _ he|exact hq _ _ _ he|exact q6J hq he)⟩
 |halt x w'=>cases x<;>simp only [Oper.uponIn] at hh⊢ <;>first|exact hq _ _ _ hh|exact hh
theorem q5o{F:Fence}{n:Nat}{all:Array Oper}{Q Q':Exit→Act→World→Prop}(hq:∀e a w,Q e a w→Q' e a w):∀ (l:List Nat) (a:Act) (w:World),wpOpsIn F n P all Q l a w→wpOpsIn F n P all Q' l a w
 | [],a,w,h=>hq _ _ _ h
 |i :: l,a,w,h=>by
  unfold wpOpsIn at h⊢;split
  · rename_i ho;simp only [ho] at h;exact q5o hq l a w h
  rename_i o ho;simp only [ho] at h;split
  · rename_i hw;rw [if_pos hw] at h;exact z5W (fun a w h=>q5o hq l a w h) hq h
  rename_i hw;rw [if_neg hw] at h;exact ⟨h.1,q5o hq l _ w h.2⟩

def noStop:List It→Bool
 | []=>true
 |.code _ :: k=>noStop k
 |.ops _ _ :: k=>noStop k
 |.blk _ :: k=>noStop k
 |_ :: _=>false
theorem q4a{G G':Ghost}{F:Fence}{n:Nat}{E E':EnD}{Q Q':Exit→Act→World→Prop}(hq:∀e a w,Q' e a w→Q e a w):∀ (k:List It),noStop k=true→
 (∀a w, @wpT G' F n P E' Q' k a w→ @wpT G F n P E Q k a w)∧(∀id a w, @exitT G' F n P E' Q' id k a w→ @exitT G F n P E Q id k a w)
 | [],_=>⟨fun a w h=>by simp only [wpT] at h⊢;exact hq _ _ _ h,fun id a w h=>by simp only [exitT] at h⊢;exact hq _ _ _ h⟩
 |.code c :: k,hs=>by
  obtain ⟨h1,h2⟩:=q4a (G:=G) (G':=G') (F:=F) (n:=n) (E:=E) (E':=E') hq k hs;refine ⟨fun a w h=> ?_,fun id a w h=>by simp only [exitT] at h⊢;exact h2 id a w h⟩
  simp only [wpT] at h⊢;refine wpIn_mono h fun e a w hh=> ?_;cases e with
  |normal=>exact h1 a w hh
  |exit id=>exact h2 id a w hh
  |_=>exact hq _ _ _ hh
 |.ops all l :: k,hs=>by
  obtain ⟨h1,h2⟩:=q4a (G:=G) (G':=G') (F:=F) (n:=n) (E:=E) (E':=E') hq k hs;refine ⟨fun a w h=> ?_,fun id a w h=>by simp only [exitT] at h⊢;exact h2 id a w h⟩
  simp only [wpT] at h⊢;refine q5o (fun e a w hh=> ?_) l a w h;cases e with
  |normal=>exact h1 a w hh
  |exit id=>exact h2 id a w hh
  |_=>exact hq _ _ _ hh
 |.blk id' :: k,hs=>by
  obtain ⟨h1,h2⟩:=q4a (G:=G) (G':=G') (F:=F) (n:=n) (E:=E) (E':=E') hq k hs;refine ⟨fun a w h=>by simp only [wpT] at h⊢;exact h1 a w h,fun id a w h=> ?_⟩
  simp only [exitT] at h⊢;split
  · rw [if_pos (by assumption)] at h;exact h1 a w h
  rw [if_neg (by assumption)] at h;exact h2 id a w h
variable {td:List IT}
def noStopI:List IT→Bool
 | []=>true
 |.ic _ :: k=>noStopI k
 |.ops _ :: k=>noStopI k
 |.blk _ :: k=>noStopI k
 |_ :: _=>false
theorem q3D:∀ {td:List IT} {r:List It},RelT P td r→noStopI td=true→noStop r=true
 | [],r,h,_=>by cases h;rfl
 |.ic c :: k,r,h,hs=>by obtain ⟨c',r',rfl,_,hr⟩:=h;exact (q3D (td:=k) (r:=r') hr hs:noStop r'=true)
 |.ops l :: k,r,h,hs=>by obtain ⟨all,idx,r',rfl,_,hr⟩:=h;exact (q3D (td:=k) (r:=r') hr hs:noStop r'=true)
 |.blk id :: k,r,h,hs=>by obtain ⟨r',rfl,hr⟩:=h;exact (q3D (td:=k) (r:=r') hr hs:noStop r'=true)
end Go.Sx
namespace Go.Sx
open Go

variable {P:Program} {AQ:Ex→List SV→List SObj→Prop} {k0:Nat} {k:List It} {t:List SV} {H:List SObj}

def far:Obj→Prop
 |.loop _=>True
 |.deferred _=>True
 |_=>False
def FarAt(w:World)(b:Nat):Prop:=∃o,w.heap[b]?=some o∧far o
def Perm(E:En)(b:Nat):Prop:=E.C.w.heap.size≤b∨OwnB E.C E.H b
theorem z5B{C:Cx}{b:Nat}(hw:Wd C H)(h:OwnB C H b):¬FarAt C.w b:=by
 obtain ⟨i,o,ho,hl,hb⟩:=h;have:=hw.obj i o ho;rintro ⟨x,hx,hf⟩;cases o with
 |dead=>simp [SObj.live] at hl
 |mark n=>simp [SObj.live] at hl
 |cells T cs=>
  obtain ⟨b',vs,h1,h2,_⟩:=this;rw [hb] at h1;cases h1;rw [hx] at h2;cases h2;exact hf
 |row t xs=>
  rcases this with ⟨h1,_⟩ | ⟨b',arr,T',fz',h1,h2,h3,_⟩
  · rw [hb] at h1;cases h1
  rw [hb] at h1;cases h1;rw [hx] at h2;cases h2;exact hf
 |map kk ks vs=>
  obtain ⟨b',us,h1,⟨es,cl,h2,_⟩,_⟩:=this;rw [hb] at h1;cases h1;rw [hx] at h2;cases h2;exact hf
theorem z7Q{w:World}{b:Nat}(h:FarAt w b):World.bsize w b=none:=by
 obtain ⟨o,ho,hf⟩:=h;unfold World.bsize;rw [ho];cases o<;>first|rfl|exact hf.elim

def unmk:SObj→SObj
 |.mark _=>.dead
 |o=>o
theorem z6x{o:SObj}:(unmk o).live=true ↔ o.live=true:=by cases o<;>simp [unmk,SObj.live]
theorem j3N{o:SObj}(h:o.live=true):unmk o=o:=by cases o<;>first|rfl|simp [SObj.live] at h
open Classical in
noncomputable def rowOf(S:Nat→Prop)(b:Nat):Option Nat:=if S b then some b else none
noncomputable def startE(um:Bool)(S:Nat→Prop)(C:Cx)(H:List SObj):EnD:=
 {C:={C with ρ:=fun h=>if h<C.n then C.ρ h else rowOf S (h-C.n)},H:=(if um then H.map unmk else H)++List.replicate C.w.heap.size (.row .u8 []),base:=[]}
theorem q1e{um:Bool}{S:Nat→Prop}{C:Cx}{b:Nat}(hn:C.n=H.length):OwnB (startE um S C H).C (startE um S C H).H b ↔ OwnB C H b∨(S b∧b<C.w.heap.size):=by
 have hlen:(if um then H.map unmk else H).length=H.length:=by cases um<;>simp
 constructor
 · rintro ⟨h,o,ho,hl,hb⟩;simp only [startE] at ho hb;rcases AC h H.length with hh|hh
   · rw [Ah (by rw [hlen];exact hh)] at ho
     rw [if_pos (by omega)] at hb
     cases um
     · exact .inl ⟨h,o,ho,hl,hb⟩
     simp only [if_true,AS,Ap] at ho;obtain ⟨o',ho',rfl⟩:=ho;exact .inl ⟨h,o',ho',z6x.1 hl,hb⟩
   rw [Ao (by rw [hlen];exact hh),hlen] at ho
   rw [if_neg (by omega)] at hb
   have h1:=(Af.1 ho).1;rw [Bc] at h1;unfold rowOf at hb;split at hb
   · rename_i hS;cases hb;rw [hn];exact .inr ⟨hn▸hS,h1⟩
   cases hb
 rintro (⟨h,o,ho,hl,hb⟩ | ⟨hS,hb⟩)
 · have hh:=(Af.1 ho).1;refine ⟨h,o,?_,hl,?_⟩
   · simp only [startE];rw [Ah (by rw [hlen];exact hh)]
     cases um
     · exact ho
     simp only [if_true,AS,ho,CE,j3N hl]
   simp only [startE];rw [if_pos (by omega)];exact hb
 refine ⟨H.length+b,.row .u8 [],?_,rfl,?_⟩
 · simp only [startE];rw [Ao (by rw [hlen];omega),hlen,Co,List.getElem?_replicate,if_pos hb]
 simp only [startE];rw [if_neg (by omega),hn,Co]
 unfold rowOf;rw [if_pos hS]
theorem q4V{um:Bool}{S:Nat→Prop}{C:Cx}{m:Nat}(h0:0<H.length)(h:(startE um S C H).H[0]?=some (.mark m)):um=false∧H[0]?=some (.mark m):=by
 simp only [startE] at h;rw [Ah (by cases um<;>simpa using h0)] at h
 cases um
 · exact ⟨rfl,h⟩
 simp only [if_true,AS,Ap] at h;obtain ⟨o,_,ho⟩:=h;cases o<;>simp [unmk] at ho
theorem q6f{um:Bool}{S:Nat→Prop}{C:Cx}(hn:C.n=H.length):Ext (startE um S C H) C H:=
 ⟨⟨Ag _,fun h hh=>(if_pos (show h<C.n from hh)).symm,Keeps.refl _ _,fun _ _ h=>h⟩,Ag _,rfl,rfl,rfl,fun _ _ _=>rfl,fun _ h=>.inl h,fun b hb=>.inr ((q1e hn).2 (.inl hb)),
  fun m h0 hm=>(q4V (show 0<H.length by have:0<C.n:=h0;omega) hm).2⟩
theorem q8I{um:Bool}{S:Nat→Prop}{C:Cx}(hn:C.n=H.length)(h:TabT C H)(hS:∀b,S b→¬TBlk b):TabT (startE um S C H).C (startE um S C H).H:=
 h.keep (Keeps.refl _ _) fun b hT hb ho=>⟨hb,fun x=>((q1e hn).1 x).elim ho fun y=>hS b y.1 hT,rfl⟩
theorem q4F{um:Bool}{S:Nat→Prop}{C C':Cx}(h:Evo (startE um S C H).C C'):Evo C C':=
 ⟨h.n,fun x hx=>(h.ρ x hx).trans (if_pos hx),h.I,h.sz⟩
theorem z1W{E:En}{um:Bool}{S:Nat→Prop}{C C':Cx}{H':List SObj}(hw:Wd C H)(hx:Ext E C H)(hS:∀b,S b→Perm E b)(hu:um=true→∀n,E.H[0]?≠some (.mark n))(k:Ext (startE um S C H) C' H'):Ext E C' H':=by
 have hown:∀b,OwnB (startE um S C H).C (startE um S C H).H b→Perm E b:=fun b hb=>((q1e hw.n).1 hb).elim (hx.ownNew b) fun h=>hS b h.1;refine ⟨hx.evo.trans (q4F k.evo),Am hx.size k.size,k.os.trans hx.os,k.tape.trans hx.tape,k.output.trans hx.output,fun b h1 h2=> ?_,fun b hb=> ?_,fun b hb=> ?_,fun m h0 hm=> ?_⟩
 · exact (k.frame b (An h1 hx.size) fun ho=>(hown b ho).elim (fun x=>absurd h1 (AU.2 x)) h2).trans (hx.frame b h1 h2)
 · rcases k.immNew b hb with g| ⟨g,u⟩
   · exact orMap (hx.immNew b g) id fun ⟨x,u⟩=>⟨x,u.keep (k.evo.I b g).2⟩
   exact .inr ⟨g.elim (fun x=>.inl (Am hx.size x)) (hown b),u⟩
 · exact (k.ownNew b hb).elim (fun x=>.inl (Am hx.size x)) (hown b)
 have h1:=hx.keep0 m h0 hm;have hn:=hw.n;have hlt:0<C.n:=An h0 hx.evo.n;cases um with
 |true=>exact absurd hm (hu rfl m)
 |false=>
  refine k.keep0 m hlt ?_;simp only [startE];rw [Ah (by simpa using (show 0<H.length by omega))]
  exact h1

structure FG where
 um:Bool
 core:EnD→Cx→List SObj→(Nat→Prop)→Prop
 next:∀ {E C C' H H' S},Ext ⟨C,H⟩ C' H'→core E C H S→core E C' H' S
 own:∀ {E C C' H H' S},Wd C H→C'.w=C.w→(∀b,C.I b→C'.I b)→(∀b,C'.I b→C.I b∨OwnB C H b)→(∀b,OwnB C' H' b→OwnB C H b∨(E.C.w.heap.size≤b∧¬S b))→(∀n,0<E.C.n→H[0]?=some (.mark n)→H'[0]?=some (.mark n))→E.C.n≤C'.n→core E C H S→core E C' H' S
 perm:∀ {E C H S b},core E C H S→S b→Perm E.toEn b∧¬C.I b∧¬OwnB C H b∧b<C.w.heap.size
 abide:∀ {E C H S w' I'},core E C H S→C.w.heap.size≤w'.heap.size→(∀b,b<C.w.heap.size→(b<E.C.w.heap.size∨S b∨C.I b∨OwnB C H b)→w'.heap[b]?=C.w.heap[b]?)→(∀b,C.I b→w'.heap[b]?=C.w.heap[b]?)→w'.os=C.w.os→w'.tape=C.w.tape→w'.output=C.w.output→
  (∀b m,World.bsize C.w b=some m→World.bsize w' b=some m)→(∀b,C.I b→I' b)→(∀b,I' b→C.I b∨(E.C.w.heap.size≤b∧¬S b∧¬OwnB C H b∧Unf w' b))→core E {C with w:=w',I:=I'} H S
 lo:∀ {E C H S b},core E C H S→S b→FarAt C.w b→b<E.C.w.heap.size
 start:∀ {E C H S},Wd C H→core E C H S→core (startE um S C H) C H S
 back:∀ {E C H S C' H' S'},Wd C H→core E C H S→Ext (startE um S C H) C' H'→core (startE um S C H) C' H' S'→core E C' H' S'
 unm:∀ {E C H S},um=true→core E C H S→∀n,E.H[0]?≠some (.mark n)
 base:∀ {E C H S} (ds:List Deferred),core E C H S→core {E with base:=ds} C H S
 nt:∀ {E C H S b},core E C H S→S b→¬TBlk b

def noFG:FG where
 um:=false
 core:=fun _ _ _ S=>∀b,¬S b
 next:=fun _ h=>h
 own:=fun _ _ _ _ _ _ _ h=>h
 perm:=fun h hS=>absurd hS (h _)
 abide:=fun h _ _ _ _ _ _ _ _ _=>h
 lo:=fun h hS=>absurd hS (h _)
 start:=fun _ h=>h
 back:=fun _ _ _ h=>h
 unm:=fun h=>by cases h
 base:=fun _ h=>h
 nt:=fun h hS=>absurd hS (h _)

def chgC(C:Cx)(b:Nat)(o:Obj):Cx:={C with w:={C.w with heap:=C.w.heap.setIfInBounds b o}}
theorem q1m{C:Cx}{D b:Nat}{o:Obj}(h:b≠D):(chgC C D o).w.heap[b]?=C.w.heap[b]?:=by
 simp only [chgC];rw [Cw (Ne.symm h)]
theorem j3j{C:Cx}{D:Nat}{o x:Obj}(h:C.w.heap[D]?=some x):(chgC C D o).w.heap[D]?=some o:=by
 simp only [chgC];rw [Array.getElem?_setIfInBounds_self_of_lt (AD.1 h).1]
theorem q3U{C:Cx}{D:Nat}{o:Obj}:(chgC C D o).w.heap.size=C.w.heap.size:=by simp [chgC]
theorem q9U{C:Cx}{D:Nat}{o:Obj}(h:FarAt C.w D)(b m:Nat)(hm:World.bsize C.w b=some m):World.bsize (chgC C D o).w b=some m:=by
 by_cases e:b=D
 · subst e;rw [z7Q h] at hm;cases hm
 unfold World.bsize at hm⊢;rw [q1m e];exact hm
theorem FG.chg(g:FG){E:EnD}{C:Cx}{S:Nat→Prop}{D:Nat}{o:Obj}(hc:g.core E C H S)(h1:E.C.w.heap.size≤D)(h2:¬C.I D)(h3:¬OwnB C H D)(h4:FarAt C.w D):g.core E (chgC C D o) H S:=by
 refine g.abide (w':=(chgC C D o).w) (I':=C.I) hc (by rw [q3U];exact Ag _) (fun b _ hb=>q1m fun e=> ?_) (fun b hb=>q1m fun e=>h2 (e▸hb)) rfl rfl rfl (q9U h4) (fun _ h=>h) (fun _ h=>.inl h)
 subst e;rcases hb with hb|hb|hb|hb
 · exact absurd hb (AU.2 h1)
 · exact absurd (g.lo hc hb h4) (AU.2 h1)
 · exact h2 hb
 exact h3 hb

theorem MarkOk.far{E:En}{C:Cx}{D:Nat}(h:MarkOk E C H D):FarAt C.w D:=⟨_,h.at_,trivial⟩
theorem MarkOk.next{E:En}{C C':Cx}{H':List SObj}{D:Nat}(hx:Ext ⟨C,H⟩ C' H')(h:MarkOk E C H D):MarkOk E C' H' D:=by
 have hlt:D<C.w.heap.size:=(AD.1 h.at_).1;refine ⟨h.sz,fun hi=> ?_,fun ho=> ?_,(hx.frame D hlt h.own).trans h.at_⟩
 · exact (hx.immNew D hi).elim h.imm fun ⟨x,_⟩=>x.elim (fun x=>absurd hlt (AU.2 x)) h.own
 exact (hx.ownNew D ho).elim (fun x=>absurd hlt (AU.2 x)) h.own
theorem MarkOk.same{E:En}{C C':Cx}{H':List SObj}{D:Nat}(e:C'.w=C.w)(hi:∀b,C'.I b→C.I b∨OwnB C H b)(ho:∀b,OwnB C' H' b→OwnB C H b)(h:MarkOk E C H D):MarkOk E C' H' D:=
 ⟨h.sz,fun x=>(hi D x).elim h.imm h.own,fun x=>h.own (ho D x),by rw [e];exact h.at_⟩

@[reducible] def fgG(g:FG):Ghost where
 inv0:=fun E C H=>∃S,g.core E C H S
 fin:=fun E C H ds=>ds=E.base∧∃S,g.core E C H S
 toFin0:=fun _ h=>⟨rfl,h⟩
 next0:=fun hx ⟨S,h⟩=>⟨S,g.next hx h⟩
 same0:=fun hw e hk hi ho hm hl ⟨S,h⟩=>⟨S,g.own hw e hk hi (fun b hb=>.inl (ho b hb)) hm hl h⟩
end Go.Sx
namespace Go.Sx
open Go

variable {P:Program} {AQ:Ex→List SV→List SObj→Prop} {k0:Nat} {k:List It} {t:List SV} {H:List SObj}

@[reducible] def topG(g:FG)(Ds:List Nat):Ghost where
 inv0:=fun E C H=>(∃S,g.core E C H S)∧Ds.Nodup∧∀D∈Ds,MarkOk E.toEn C H D
 fin:=fun E C H ds=>∃Ds':List Nat,ds=Ds'.map markD++E.base∧(∃S,g.core E C H S)∧(Ds'++Ds).Nodup∧∀D∈Ds'++Ds,MarkOk E.toEn C H D
 toFin0:=fun _ h=>⟨[],rfl,h.1,by simpa using h.2.1,by simpa using h.2.2⟩
 next0:=fun hx h=>⟨(fgG g).next0 hx h.1,h.2.1,fun D hD=>(h.2.2 D hD).next hx⟩
 same0:=fun hw e hk hi ho hm hl h=>⟨(fgG g).same0 hw e hk hi ho hm hl h.1,h.2.1,fun D hD=>(h.2.2 D hD).same e hi ho⟩
 rd:=fun r=>r=none
 rd0:=rfl

def Pins(L:List (Nat×Obj))(C:Cx)(H:List SObj)(S:Nat→Prop):Prop:=∀x∈L,¬C.I x.1∧¬OwnB C H x.1∧¬S x.1∧C.w.heap[x.1]?=some x.2∧far x.2
theorem Pins.next{L:List (Nat×Obj)}{S:Nat→Prop}{C C':Cx}{H':List SObj}(hx:Ext ⟨C,H⟩ C' H')(h:Pins L C H S):Pins L C' H' S:=fun x hxL=>by
 obtain ⟨h1,h2,hS,h3,h4⟩:=h x hxL;have hlt:x.1<C.w.heap.size:=(AD.1 h3).1;refine ⟨fun hi=> ?_,fun ho=> ?_,hS,(hx.frame _ hlt h2).trans h3,h4⟩
 · exact (hx.immNew _ hi).elim h1 fun ⟨y,_⟩=>y.elim (fun y=>absurd hlt (AU.2 y)) h2
 exact (hx.ownNew _ ho).elim (fun y=>absurd hlt (AU.2 y)) h2
theorem Pins.same{L:List (Nat×Obj)}{S:Nat→Prop}{C C':Cx}{H':List SObj}(e:C'.w=C.w)(hi:∀b,C'.I b→C.I b∨OwnB C H b)(ho:∀b,OwnB C' H' b→OwnB C H b)(h:Pins L C H S):Pins L C' H' S:=fun x hxL=>by
 obtain ⟨h1,h2,hS,h3,h4⟩:=h x hxL;exact ⟨fun y=>(hi _ y).elim h1 h2,fun y=>h2 (ho _ y),hS,by rw [e];exact h3,h4⟩
@[reducible] def pinG(g:FG)(L:List (Nat×Obj)):Ghost where
 inv0:=fun E C H=>∃S,g.core E C H S∧Pins L C H S
 fin:=fun E C H ds=>ds=E.base∧∃S,g.core E C H S∧Pins L C H S
 toFin0:=fun _ h=>⟨rfl,h⟩
 next0:=fun hx ⟨S,h⟩=>⟨S,g.next hx h.1,h.2.next hx⟩
 same0:=fun hw e hk hi ho hm hl ⟨S,h⟩=>⟨S,g.own hw e hk hi (fun b hb=>.inl (ho b hb)) hm hl h.1,h.2.same e hi ho⟩

theorem z3b{E:En}{C:Cx}{D D':Nat}(h:MarkOk E C H D')(hne:D'≠D):MarkOk E (dropD C D) H D':=⟨h.sz,h.imm,h.own,(q1Q hne).trans h.at_⟩
theorem q8W(g:FG){E:EnD}{S:Nat→Prop}:∀ (Ds:List Nat) {C:Cx},g.core E C H S→Ds.Nodup→(∀D∈Ds,MarkOk E.toEn C H D)→g.core E (Ds.foldl dropD C) H S
 | [],_,h,_,_=>h
 |D :: Ds,C,h,hnd,hok=>by
  have hD:=hok D (by simp)
  exact q8W g Ds (C:=dropD C D) (g.chg (o:=.deferred none) h hD.sz hD.imm hD.own hD.far) (BJ.1 hnd).2 fun D' hD'=>z3b (hok D' (by simp [hD'])) fun e=>(BJ.1 hnd).1 (e▸hD')

theorem z6D(g:FG){f:FuncId}{fn:Func}{c:Code}{args:List SV}{K:Out→List SObj→Prop}(hf:P.funcs[f]?=some fn)(hb:fn.body=some c)
 (h: @Sound (topG g []) P (retQ P fn K) ⟨H.length,[.code c],args++List.replicate (fn.ntmps-args.length) .any,H⟩): @VCallG (fgG g) P f args H K:=by
 rintro E C vs hw ⟨ht,S,hc⟩ hv
 refine (@q8e (topG g []) P H f fn c args K (startE g.um S C H) C vs hf hb rfl (by show C.n≤_;rw [hw.n];exact Ag _) hw (q6f hw.n) ⟨⟨ht.tab,ht.tab.lt⟩,⟨S,g.start hw hc⟩,List.nodup_nil,fun _ h=>by simp at h⟩
  (fun C' H'=>∃S',g.core (startE g.um S C H) C' H' S') ?_ hv h).mono ?_
 · rintro C' H' ds hw' hx' ⟨Ds',e,⟨S',hc'⟩,hnd,hok⟩;rw [Ai] at hnd hok;exact ⟨Ds',by rw [e];exact Ai _,hnd,hok,S',q8W g Ds' hc' hnd hok⟩
 rintro e w' ⟨o,H',C',k1,k2,k3,k4,⟨S',k5⟩,k6⟩;exact ⟨o,H',C',k1,k2,k3, @Stp.mk (fgG g) E C H C' H' (q4F k4.evo) (fun k=>z1W hw k (fun b hb=>(g.perm hc hb).1) (fun hu=>g.unm hu hc) k4) (fun hx0=>⟨⟨(q8I hw.n hx0.1.tab fun b hb=>g.nt hc hb).next k4,hx0.1.old⟩,S',g.back hw hc k4 k5⟩),k6⟩
theorem q7q(g:FG){f:FuncId}{fi:FI}{args:List SV}{K:Out→List SObj→Prop}(h:finfo P f=some fi)
 (hs: @SoundI (topG g []) P (retF P fi.results K) ⟨H.length,[.ic fi.code],args++List.replicate (fi.ntmps-args.length) .any,H⟩): @VCG (fgG g) P f args H K:=by
 obtain ⟨fn,c,hf,hb,hc,h1,h2,hen⟩:=j5I h;have hq:retQ P fn K=retF P fi.results K:=by rw [←h2];funext e t H;cases e<;>rfl
 refine ⟨hen, @z6D P H g f fn c args K hf hb ?_⟩;rw [hq,h1];exact @q0h (topG g []) P (retF P fi.results K) _ _ _ _ _ hs ⟨c,[],rfl,hc,rfl⟩
theorem z3v{f:FuncId}{args:List SV}{K:Out→List SObj→Prop}(h: @VCG (fgG noFG) P f args H K):VC P f args H K:=
 ⟨h.1,fun C vs hw ht hv=>(h.2 ⟨⟨C,H⟩,[]⟩ C vs hw ⟨ht.here,fun _=>False,fun _ h=>h⟩ hv).mono fun _ _ ⟨o,H',C',k1,k2,k3,k4,k5⟩=>⟨o,H',C',k1,k2,k3, @Stp.ext (fgG noFG) _ _ _ _ _ k4 (Ext.refl _ _),k5⟩⟩

structure FJ (B:Nat) (J:Nat→(Nat→Prop)→World→(Nat→Prop)→Prop):Prop where
 abide:∀ {m S w I w' I'},J m S w I→w.heap.size≤w'.heap.size→(∀b,b<w.heap.size→(b<B∨S b∨I b)→w'.heap[b]?=w.heap[b]?)→(∀b,I b→w'.heap[b]?=w.heap[b]?)→w'.os=w.os→w'.tape=w.tape→w'.output=w.output→
  (∀b m,World.bsize w b=some m→World.bsize w' b=some m)→(∀b,I b→I' b)→(∀b,I' b→I b∨(B≤b∧¬S b∧Unf w' b))→J m S w' I'
 fp:∀ {m S w I b},J m S w I→S b→¬I b∧b<w.heap.size
 lo:∀ {m S w I b},J m S w I→S b→FarAt w b→b<B
 nt:∀ {m S w I b},J m S w I→S b→¬TBlk b
structure YCore (B:Nat) (J:Nat→(Nat→Prop)→World→(Nat→Prop)→Prop) (E:EnD) (C:Cx) (H:List SObj) (S:Nat→Prop):Prop where
 pos:0<E.C.n
 n:E.C.n≤C.n
 unm:∀n,E.H[0]?≠some (.mark n)
 lo:B≤E.C.w.heap.size
 sz:E.C.w.heap.size≤C.w.heap.size
 own:∀b,OwnB C H b→Perm E.toEn b∧B≤b
 st:∃m,H[0]?=some (.mark m)∧J m S C.w C.I
 fp:∀b,S b→Perm E.toEn b∧¬OwnB C H b
def yFG{B:Nat}{J:Nat→(Nat→Prop)→World→(Nat→Prop)→Prop}(hJ:FJ B J):FG where
 um:=true
 core:=YCore B J
 next:=fun {E C C' H H' S} hx h=>by
  obtain ⟨m,h1,h2⟩:=h.st;have hS:∀b,S b→¬C.I b∧b<C.w.heap.size:=fun b hb=>hJ.fp h2 hb;refine ⟨h.pos,Am h.n hx.evo.n,h.unm,h.lo,Am h.sz hx.size,fun b hb=> ?_,⟨m,hx.keep0 m (An h.pos h.n) h1,?_⟩,fun b hb=>⟨(h.fp b hb).1,fun ho=> ?_⟩⟩
  · rcases hx.ownNew b hb with x|x
    · exact ⟨.inl (Am h.sz x),Am h.lo (Am h.sz x)⟩
    exact h.own b x
  · refine hJ.abide h2 hx.size (fun b hb h3=> ?_) (fun b hb=>(hx.evo.I b hb).2) hx.os hx.tape hx.output hx.evo.sz (fun b hb=>(hx.evo.I b hb).1) fun b hb=> ?_
    · rcases h3 with h3|h3|h3
      · exact hx.frame b hb fun ho=>absurd h3 (AU.2 (h.own b ho).2)
      · exact hx.frame b hb fun ho=>(h.fp b h3).2 ho
      exact (hx.evo.I b h3).2
    rcases hx.immNew b hb with x| ⟨x|x,u⟩
    · exact .inl x
    · exact .inr ⟨Am h.lo (Am h.sz x),fun hs=>absurd (hS b hs).2 (AU.2 x),u⟩
    exact .inr ⟨(h.own b x).2,fun hs=>(h.fp b hs).2 x,u⟩
  rcases hx.ownNew b ho with x|x
  · exact absurd (hS b hb).2 (AU.2 x)
  exact (h.fp b hb).2 x
 own:=fun {E C C' H H' S} hw e hk hi ho hm hl h=>by
  obtain ⟨m,h1,h2⟩:=h.st;refine ⟨h.pos,hl,h.unm,h.lo,by rw [e];exact h.sz,fun b hb=> ?_,⟨m,hm m h.pos h1,?_⟩,fun b hb=>⟨(h.fp b hb).1,fun h3=> ?_⟩⟩
  · rcases ho b hb with x| ⟨x,_⟩
    · exact h.own b x
    exact ⟨.inl x,Am h.lo x⟩
  · rw [e];refine hJ.abide h2 (Ag _) (fun _ _ _=>rfl) (fun _ _=>rfl) rfl rfl rfl (fun _ _ h=>h) hk fun b hb=>orMap (hi b hb) id fun x=>⟨(h.own b x).2,fun hs=>(h.fp b hs).2 x,q4S hw x⟩
  exact (ho b h3).elim (h.fp b hb).2 fun x=>x.2 hb
 perm:=fun {E C H S b} h hS=>by
  obtain ⟨m,h1,h2⟩:=h.st;exact ⟨(h.fp b hS).1,(hJ.fp h2 hS).1,(h.fp b hS).2,(hJ.fp h2 hS).2⟩
 abide:=fun {E C H S w' I'} h hs hf hkI h1 h2 h3 hz hI hI'=>by
  obtain ⟨m,g1,g2⟩:=h.st;refine ⟨h.pos,h.n,h.unm,h.lo,Am h.sz hs,h.own,⟨m,g1,?_⟩,h.fp⟩;refine hJ.abide g2 hs (fun b hb h4=>hf b hb ?_) hkI h1 h2 h3 hz hI fun b hb=>orMap (hI' b hb) id fun ⟨x,y,_,u⟩=>⟨Am h.lo x,y,u⟩;rcases h4 with h4|h4|h4
  · exact .inl (An h4 h.lo)
  · exact .inr (.inl h4)
  exact .inr (.inr (.inl h4))
 lo:=fun {E C H S b} h hS hf=>by
  obtain ⟨m,g1,g2⟩:=h.st;exact An (hJ.lo g2 hS hf) h.lo
 start:=fun {E C H S} hw h=>by
  obtain ⟨m,g1,g2⟩:=h.st;have hlt:0<H.length:=(Af.1 g1).1;refine ⟨by show 0<C.n;rw [hw.n];exact hlt,Ag _,fun n hn=>(by cases (q4V hlt hn).1),Am h.lo h.sz,Ag _,fun b hb=>⟨.inr ((q1e hw.n).2 (.inl hb)),(h.own b hb).2⟩,⟨m,g1,g2⟩,fun b hb=>⟨.inr ((q1e hw.n).2 (.inr ⟨hb,(hJ.fp g2 hb).2⟩)),(h.fp b hb).2⟩⟩
 back:=fun {E C H S C' H' S'} hw h hx k=>by
  have hp:∀b,Perm (startE true S C H).toEn b→Perm E.toEn b:=fun b hb=>by
   rcases hb with hb|hb
   · exact .inl (Am h.sz hb)
   exact ((q1e hw.n).1 hb).elim (fun x=>(h.own b x).1) fun x=>(h.fp b x.1).1
  exact ⟨h.pos,Am h.n (q4F hx.evo).n,h.unm,h.lo,Am h.sz hx.size,fun b hb=>⟨hp b (k.own b hb).1,(k.own b hb).2⟩,k.st,fun b hb=>⟨hp b (k.fp b hb).1,(k.fp b hb).2⟩⟩
 unm:=fun _ h=>h.unm
 nt:=fun {E C H S b} h hS=>by
  obtain ⟨m,h1,h2⟩:=h.st;exact hJ.nt h2 hS
 base:=fun _ h=>⟨h.pos,h.n,h.unm,h.lo,h.sz,h.own,h.st,h.fp⟩
end Go.Sx
namespace Go.Sx
open Go

variable {P:Program} {AQ:Ex→List SV→List SObj→Prop} {k0:Nat} {k:List It} {t:List SV} {H:List SObj}

structure Fr (Q:Nat→Prop) (C C':Cx):Prop where
 size:C.w.heap.size≤C'.w.heap.size
 os:C'.w.os=C.w.os
 tape:C'.w.tape=C.w.tape
 output:C'.w.output=C.w.output
 keep:Keeps C.I C'.I C.w C'.w
 sz:∀b m,World.bsize C.w b=some m→World.bsize C'.w b=some m
 frame:∀b,b<C.w.heap.size→¬Q b→C'.w.heap[b]?=C.w.heap[b]?
 imm:∀b,C'.I b→C.I b∨((C.w.heap.size≤b∨Q b)∧Unf C'.w b)
theorem Fr.trans{Q Q':Nat→Prop}{C C' C'':Cx}(h:Fr Q C C')(k:Fr Q' C' C'')(hq:∀b,Q' b→C.w.heap.size≤b∨Q b):Fr Q C C'' where
 size:=Am h.size k.size
 os:=k.os.trans h.os
 tape:=k.tape.trans h.tape
 output:=k.output.trans h.output
 keep:=h.keep.trans k.keep
 sz:=fun b m hm=>k.sz b m (h.sz b m hm)
 frame:=fun b hb hn=>(k.frame b (An hb h.size) fun h'=>(hq b h').elim (fun x=>absurd hb (AU.2 x)) hn).trans (h.frame b hb hn)
 imm:=fun b hb=>by
  rcases k.imm b hb with x| ⟨x,u⟩
  · exact orMap (h.imm b x) id fun ⟨y,u⟩=>⟨y,u.keep (k.keep b x).2⟩
  exact .inr ⟨x.elim (fun y=>.inl (Am h.size y)) (hq b),u⟩
theorem Fr.mono{Q Q':Nat→Prop}{C C':Cx}(h:Fr Q C C')(hq:∀b,Q b→Q' b):Fr Q' C C' where
 size:=h.size
 os:=h.os
 tape:=h.tape
 output:=h.output
 keep:=h.keep
 sz:=h.sz
 frame:=fun b hb hn=>h.frame b hb fun x=>hn (hq b x)
 imm:=fun b hb=>orMap (h.imm b hb) id fun ⟨y,u⟩=>⟨orMap y id (hq b),u⟩
theorem z5h{um:Bool}{S:Nat→Prop}{C C':Cx}{H':List SObj}(hn:C.n=H.length)(k:Ext (startE um S C H) C' H'):Fr (fun b=>OwnB C H b∨S b) C C' where
 size:=k.size
 os:=k.os
 tape:=k.tape
 output:=k.output
 keep:=k.evo.I
 sz:=k.evo.sz
 frame:=fun b hb hq=>k.frame b hb fun ho=>hq (orMap ((q1e hn).1 ho) id fun x=>x.1)
 imm:=fun b hb=>orMap (k.immNew b hb) id fun ⟨y,u⟩=>⟨orMap y id fun ho=>orMap ((q1e hn).1 ho) id fun x=>x.1,u⟩
theorem z0Z{um:Bool}{S:Nat→Prop}{C C':Cx}{H':List SObj}(hn:C.n=H.length)(k:Ext (startE um S C H) C' H'){b:Nat}(hb:OwnB C' H' b):C.w.heap.size≤b∨OwnB C H b∨S b:=
 orMap (k.ownNew b hb) id fun ho=>orMap ((q1e hn).1 ho) id fun x=>x.1
theorem q7L{C:Cx}{D:Nat}{o:Obj}(hi:¬C.I D)(hf:FarAt C.w D):Evo C (chgC C D o):=⟨Ag _,fun _ _=>rfl,fun b hb=>⟨hb,q1m fun e=>hi (e▸hb)⟩,q9U hf⟩
theorem j2n{C:Cx}{D:Nat}{o:Obj}(hi:¬C.I D)(hf:FarAt C.w D):Fr (fun b=>b=D) C (chgC C D o) where
 size:=by rw [q3U];exact Ag _
 os:=rfl
 tape:=rfl
 output:=rfl
 keep:=(q7L hi hf).I
 sz:=q9U hf
 frame:=fun b _ hn=>q1m hn
 imm:=fun b hb=>.inl hb
theorem j5h{C:Cx}{D:Nat}{o:Obj}(hw:Wd C H)(hi:¬C.I D)(ho:¬OwnB C H D)(hf:FarAt C.w D):Wd (chgC C D o) H:=
 (j6n (w':=(chgC C D o).w) hw q3U (fun b hb=>q1m fun e=>hb.elim (e▸hi) (e▸ho)) (q9U hf)).1
theorem j4D{E:En}{C:Cx}{D:Nat}{o:Obj}(hx:Ext E C H)(hi:¬C.I D)(hf:FarAt C.w D)(hs:E.C.w.heap.size≤D):Ext E (chgC C D o) H:=
 ⟨hx.evo.trans (q7L hi hf),by rw [q3U];exact hx.size,hx.os,hx.tape,hx.output,fun b hb ho=>(q1m (by omega)).trans (hx.frame b hb ho),fun b hb=>orMap (hx.immNew b hb) id fun ⟨x,u⟩=>⟨x,u.keep (q1m fun e=>hi (e▸hb))⟩,hx.ownNew,hx.keep0⟩
structure Rnd (S:Nat→Prop) (C C':Cx) (H H':List SObj) (S':Nat→Prop):Prop where
 evo:Evo C C'
 fr:Fr (fun b=>S b∨OwnB C H b) C C'
 own:∀b,OwnB C' H' b→OwnB C H b
 fp:∀b,S' b→(C.w.heap.size≤b∨S b∨OwnB C H b)∧¬OwnB C' H' b

theorem j0z{B:Nat}{J:Nat→(Nat→Prop)→World→(Nat→Prop)→Prop}{E:EnD}{C C':Cx}{H':List SObj}{S S':Nat→Prop}(h:YCore B J E C H S)(r:Rnd S C C' H H' S')(hm:∃m,H'[0]?=some (.mark m)∧J m S' C'.w C'.I):
 (Ext E.toEn C H→Ext E.toEn C' H')∧YCore B J E C' H' S':=by
 have hp:∀b,S b∨OwnB C H b→Perm E.toEn b:=fun b hb=>hb.elim (fun x=>(h.fp b x).1) fun x=>(h.own b x).1
 refine ⟨fun hx=>⟨hx.evo.trans r.evo,Am hx.size r.fr.size,r.fr.os.trans hx.os,r.fr.tape.trans hx.tape,r.fr.output.trans hx.output,fun b h1 h2=> ?_,fun b hb=> ?_,fun b hb=>hx.ownNew b (r.own b hb),fun m _ hm=>absurd hm (h.unm m)⟩,
  ⟨h.pos,Am h.n r.evo.n,h.unm,h.lo,Am h.sz r.fr.size,fun b hb=>h.own b (r.own b hb),hm,fun b hb=>⟨?_,(r.fp b hb).2⟩⟩⟩
 · exact (r.fr.frame b (An h1 hx.size) fun hq=>(hp b hq).elim (fun x=>absurd h1 (AU.2 x)) h2).trans (hx.frame b h1 h2)
 · rcases r.fr.imm b hb with x| ⟨x,u⟩
   · exact orMap (hx.immNew b x) id fun ⟨y,u⟩=>⟨y,u.keep (r.fr.keep b x).2⟩
   exact .inr ⟨x.elim (fun y=>.inl (Am hx.size y)) (hp b),u⟩
 rcases (r.fp b hb).1 with x|x
 · exact .inl (Am h.sz x)
 exact hp b x

theorem j3L{S S':Nat→Prop}{C C':Cx}{H':List SObj}(r:Rnd S C C' H H' S')(h:TabT C H)(hS:∀b,S b→¬TBlk b):TabT C' H':=
 h.keep r.evo.I fun b hT hb ho=>⟨An hb r.fr.size,fun x=>ho (r.own b x),r.fr.frame b hb fun y=>y.elim (fun z=>hS b z hT) ho⟩
def Hand(n:Nat)(H H':List SObj)(args args':List SV)(new:List SObj):Prop:=
 ∀ (C Cc:Cx) (Hc:List SObj) (vs:List Value),Wd C H→SV.denL C args vs→Wd Cc Hc→Hc.length=n→Cc.w=C.w→(∀b,Cc.I b ↔ C.I b)→(∀b,OwnB C H b→¬OwnB Cc Hc b)→
  ∃C2 Cc2:Cx,C2.w=C.w∧C2.I=C.I∧Wd C2 H'∧Evo C C2∧(∀b,OwnB C2 H' b→OwnB C H b)∧Cc2.w=C.w∧Cc2.I=Cc.I∧Wd Cc2 (Hc++new)∧Evo Cc Cc2∧SV.denL Cc2 args' vs∧(∀b,OwnB Cc2 (Hc++new) b→OwnB Cc Hc b∨(OwnB C H b∧¬OwnB C2 H' b))
theorem q3m{n:Nat}{args:List SV}(hc:SV.cleanL args=true):Hand n H H args args []:=fun C Cc Hc vs hw hv hwc _ e hi _=>
 ⟨C,Cc,rfl,rfl,hw,Evo.refl _,fun _ h=>h,e,rfl,by rw [Ai];exact hwc,Evo.refl _,q1C (C:=C) (C':=Cc) (fun b hb=>⟨(hi b).2 hb,by rw [e]⟩) hc hv,fun b hb=>.inl (by rwa [Ai] at hb)⟩

def YG(P:Program)(l B N:Nat)(J:Nat→(Nat→Prop)→World→(Nat→Prop)→Prop)(vw:Nat→Nat→List SV→List SObj→Prop):Prop:=
 ∀ (i:Nat) (T T':List SObj) (args:List SV) (C:Cx) (S:Nat→Prop) (vs:List Value),i<N→Wd C (.mark i :: T)→J i S C.w C.I→(∀b,OwnB C (.mark i :: T) b→B≤b∧¬S b)→SV.denL C args vs→
  (∀n,∃args' new,vw i n args' new∧Hand n (.mark i :: T) (.mark i :: T') args args' new)→
  ∃f tmps assign body,(Instr.yield l vs.toArray).run P C.w= .ok (.round l f tmps assign body) C.w∧
   ∀ (r:Option Nat) (n:Nat),RoundIn (Fw r) n P l f tmps assign body C.w fun e w'=>∃ (b:Bool) (C':Cx) (S':Nat→Prop),e= .returned (.bool b)∧C'.w=w'∧
    Wd C' (.mark (if b then i+1 else N+1+i) :: T')∧J (if b then i+1 else N+1+i) S' C'.w C'.I∧Rnd S C C' (.mark i :: T) (.mark (if b then i+1 else N+1+i) :: T') S'

theorem vyld{G:Ghost}{l B N:Nat}{J:Nat→(Nat→Prop)→World→(Nat→Prop)→Prop}{vw:Nat→Nat→List SV→List SObj→Prop}{i:Nat}{T T':List SObj}{args:List SV}{K:Out→List SObj→Prop}
 (hG:∀ {E C},G.inv E C (.mark i :: T)→∃S,YCore B J E C (.mark i :: T) S∧∀ (C':Cx) (H':List SObj) (S':Nat→Prop),YCore B J E C' H' S'→Rnd S C C' (.mark i :: T) H' S'→G.inv E C' H')
 (hJ:FJ B J)(yg:YG P l B N J vw)(hi:i<N)(hh:∀n,∃args' new,vw i n args' new∧Hand n (.mark i :: T) (.mark i :: T') args args' new)
 (hk:∀b:Bool,K (.ret (.raw (.bool b))) (.mark (if b then i+1 else N+1+i) :: T')): @VYld G P l args (.mark i :: T) K:=by
 intro E C vs hw hg hv;obtain ⟨S,hc,hback⟩:=hG hg;obtain ⟨m,h1,h2⟩:=hc.st;have e:m=i:=by simpa using h1.symm
 subst e;obtain ⟨f,tmps,assign,body,hrun,hround⟩:=yg m T T' args C S vs hi hw h2 (fun b hb=>⟨(hc.own b hb).2,fun hs=>(hc.fp b hs).2 hb⟩) hv hh;refine ⟨f,tmps,assign,body,hrun,fun r n=>(hround r n).mono ?_⟩;rintro e w' ⟨b,C',S',rfl,rfl,k1,k2,k3⟩;obtain ⟨x1,x2⟩:=j0z hc k3 ⟨_,rfl,k2⟩;exact ⟨.raw (.bool b),_,C',.bool b,rfl,hk b,rfl,k1, @Stp.mk G E C _ C' _ k3.evo x1 fun _=>hback C' _ S' x2 k3,by rw [SV.den]⟩
theorem j0w{Ds:List Nat}{l B N:Nat}{J:Nat→(Nat→Prop)→World→(Nat→Prop)→Prop}{vw:Nat→Nat→List SV→List SObj→Prop}{i:Nat}{T T':List SObj}{args:List SV}{K:Out→List SObj→Prop}
 (hJ:FJ B J)(yg:YG P l B N J vw)(hi:i<N)(hh:∀n,∃args' new,vw i n args' new∧Hand n (.mark i :: T) (.mark i :: T') args args' new)
 (hk:∀b:Bool,K (.ret (.raw (.bool b))) (.mark (if b then i+1 else N+1+i) :: T')): @VYld (topG (yFG hJ) Ds) P l args (.mark i :: T) K:=by
 refine @vyld P (topG (yFG hJ) Ds) l B N J vw i T T' args K (fun {E C} hg=> ?_) hJ yg hi hh hk;obtain ⟨ht,⟨S,hc⟩,hnd,hok⟩:=hg;refine ⟨S,hc,fun C' H' S' hc' hr=>⟨⟨j3L hr ht.tab fun b hb=>(yFG hJ).nt hc hb,ht.old⟩,⟨S',hc'⟩,hnd,fun D hD=> ?_⟩⟩;have m:=hok D hD;have hlt:D<C.w.heap.size:=(AD.1 m.at_).1;have hS:¬S D:=fun hs=>absurd ((yFG hJ).lo hc hs m.far) (AU.2 m.sz);refine ⟨m.sz,fun hi=> ?_,fun ho=>m.own (hr.own _ ho),(hr.fr.frame _ hlt fun hq=>hq.elim hS m.own).trans m.at_⟩;exact (hr.fr.imm _ hi).elim m.imm fun ⟨y,_⟩=>y.elim (fun y=>absurd hlt (AU.2 y)) fun y=>y.elim hS m.own

def Iter(P:Program)(f:FuncId)(fi ca:List SV)(N:Nat)(vw:Nat→Nat→List SV→List SObj→Prop):Prop:=
 enters P f=true∧∀ (l B:Nat) (J:Nat→(Nat→Prop)→World→(Nat→Prop)→Prop) (hJ:FJ B J),YG P l B N J vw→
  @VCallG (fgG (yFG hJ)) P f (fi++ [.raw (.func (.yield l) #[] #[])]++ca) [.mark 0] fun o H'=>∃s m,o= .ret s∧H'[0]?=some (.mark m)∧N≤m
def IterI(inf:Prop)(P:Program)(f:FuncId)(fi ca:List SV)(N:Nat)(vw:Nat→Nat→List SV→List SObj→Prop):Prop:=
 enters P f=true∧∀ (l B:Nat) (J:Nat→(Nat→Prop)→World→(Nat→Prop)→Prop) (hJ:FJ B J),YG P l B N J vw→(inf→∀S w I,¬J N S w I)→
  @VCallG (fgG (yFG hJ)) P f (fi++ [.raw (.func (.yield l) #[] #[])]++ca) [.mark 0] fun o H'=>∃s m,o= .ret s∧H'[0]?=some (.mark m)∧N≤m
theorem Iter.toI{inf:Prop}{f:FuncId}{fi ca:List SV}{N:Nat}{vw:Nat→Nat→List SV→List SObj→Prop}(h:Iter P f fi ca N vw):IterI inf P f fi ca N vw:=⟨h.1,fun l B J hJ yg _=>h.2 l B J hJ yg⟩
end Go.Sx
